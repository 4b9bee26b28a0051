/- A text of the proof: the parts J14z, K14z, PA13z, QA13z, SG10z, SH10z, SI10z, SJ10z, Y10z, SK10z, SL10z, SM10z, SN10z. -/
import Derived.Shelf.SlIter.Nil
import Derived.Shelf.SortM.Plain
import Derived.Shelf.SortM.SortNone
import Derived.Test.YtjflngchbeegcaaGreatDoorK6
set_option linter.unusedSimpArgs false
set_option linter.unusedVariables false
/-! text J14z -/
namespace Go.Proofs.YtjflngchbeegcaaGreatDoor
open Go.Vsi
set_option maxHeartbeats 4000000
attribute [local irreducible] VW VCall VO bits
/-! ### Built -/
def encB (x : Nat) : List AV := [.int .u8 x]
theorem encB_below (n : Nat) (l : List Nat) : belowL n (l.flatMap encB) := belowL_flat _ fun x => by simp [encB, belowL, below]
theorem fms_below (n : Nat) (l : List Fm) : belowL n (l.flatMap Fm.cells) := belowL_flat _ fun x => by simp [Fm.cells, belowL, below, Fm.sc_below]
def gF (S : List Fm) (i : Nat) : Fm := S.getD i .fa
def stp (S : List Fm) (b : Nat) : List Fm := match b with
  | 0 => S ++ [.at 80]
  | 1 => S ++ [.at 81]
  | 2 => S ++ [.at 82]
  | 3 => S ++ [.fa]
  | 4 => if 1 ≤ S.length then S.take (S.length - 1) ++ [.f1 3 (gF S (S.length - 1))] else S
  | 5 => if 2 ≤ S.length then S.take (S.length - 2) ++ [.f2 4 (gF S (S.length - 2)) (gF S (S.length - 1))] else S
  | 6 => if 2 ≤ S.length then S.take (S.length - 2) ++ [.f2 5 (gF S (S.length - 2)) (gF S (S.length - 1))] else S
  | 7 => if 2 ≤ S.length then S.take (S.length - 2) ++ [.f2 6 (gF S (S.length - 2)) (gF S (S.length - 1))] else S
  | 8 => if 2 ≤ S.length then S.take (S.length - 2) ++ [.f2 7 (gF S (S.length - 2)) (gF S (S.length - 1))] else S
  | 9 => if 1 ≤ S.length then S.take (S.length - 1) ++ [.f1 12 (gF S (S.length - 1))] else S
  | 10 => if 1 ≤ S.length then S.take (S.length - 1) ++ [.f1 13 (gF S (S.length - 1))] else S
  | 11 => if 2 ≤ S.length then S.take (S.length - 2) ++ [.f2 14 (gF S (S.length - 2)) (gF S (S.length - 1))] else S
  | _ => S
def bst (l : List Nat) : List Fm := l.foldl (fun S x => stp S (x % 12)) []
theorem stp_len (S : List Fm) (b : Nat) : (stp S b).length ≤ S.length + 1 := by
  unfold stp
  split
  all_goals try split
  all_goals try simp only [List.length_append, List.length_take, List.length_cons, List.length_nil]
  all_goals omega
theorem bst_succ (l : List Nat) (k : Nat) (h : k < l.length) : bst (l.take (k + 1)) = stp (bst (l.take k)) (l.getD k 0 % 12) := foldl_take _ _ _ 0 k h
theorem bst_len (l : List Nat) : ∀ k, (bst (l.take k)).length ≤ k
  | 0 => by simp [bst]
  | k + 1 => by
    by_cases h : k < l.length
    · rw [bst_succ l k h]
      have := stp_len (bst (l.take k)) (l.getD k 0 % 12)
      have := bst_len l k
      omega
    · have := bst_len l k
      rw [List.take_of_length_le (by omega)] at this ⊢
      omega
/-- what Built makes of a stack -/
def orN (S : List Fm) : Nat → Fm
  | 0 => gF S 0
  | j + 1 => .f2 5 (orN S j) (gF S (j + 1))
def finF (S : List Fm) : Fm := if S.length = 0 then .fa else orN S (S.length - 1)
def bltF (l : List Nat) : Fm := finF (bst (l.take 20))
theorem built_c (l : List Nat) (hl : l.length ≤ 9223372036854775807) (hb : ∀ i, i < l.length → l.getD i 0 ≤ 255) (H : Heap) : VDet Tryz.prog 32 [.sl none l.length (l.flatMap encB)] H (.agg (bltF l).cells) := by
  refine fn_det Tryz.E0 Tryz.mx Tryz.func32 (by kernel_rfl) rfl (Nat.le_of_ble_eq_true rfl) rfl fun hcl hbl => ?_
  (repeat' ((conv => whnf); (first | refine DrawN.mk' [] ?_ | fail))); all_goals (conv => whnf)
  refine loop_T Tryz.E0 Tryz.mx (σ := Nat) (fun i => i ≤ l.length ∧ i ≤ 20) (fun i => 20 - i) (fun i => [(4, .v (.int .i64 i))]) (fun _ => _) _ 0 3 50 4 (fun i => (bst (l.take i)).length) (fun i => (bst (l.take i)).flatMap Fm.cells) rfl hcl [0, 2] rfl ⟨Nat.zero_le _, Nat.zero_le _⟩ ⟨⟨_, rfl, Wk.refl _⟩, trivial⟩ rfl (fun _ _ => rfl) rfl rfl rfl ?_
  rintro i ⟨hi, hi20⟩
  clear hbl
  have hn := bst_len l i
  by_cases hlt : i < l.length ∧ i < 20
  · obtain ⟨hil, hi2⟩ := hlt
    have hop := hb i hil
    have hS := bst_succ l i hil
    generalize bst (l.take i) = S at hn hS ⊢
    obtain ⟨c, hc, hc12⟩ : ∃ c, l.getD i 0 % 12 = c ∧ c < 12 := ⟨_, rfl, Nat.mod_lt _ (by decide)⟩
    rw [hc] at hS
    have : c = 0 ∨ c = 1 ∨ c = 2 ∨ c = 3 ∨ c = 4 ∨ c = 5 ∨ c = 6 ∨ c = 7 ∨ c = 8 ∨ c = 9 ∨ c = 10 ∨ c = 11 := by omega
    rcases this with rfl | rfl | rfl | rfl | rfl | rfl | rfl | rfl | rfl | rfl | rfl | rfl
    · (repeat' ((conv => whnf); (first | (refine IfN.id ?_; first | refine IfN.tt rfl ?_ | refine IfN.dT (by omega) ?_ | fail) | (refine EqN.id ?_; first | refine EqN.remC _ rfl rfl hc ?_ | (refine EqN.addN _ _ (by first | with_reducible rfl | with_reducible exact cst1 | with_reducible exact cst0 | with_reducible exact cst2 | with_reducible exact cst3 | with_reducible exact cst4 | with_reducible exact cst5 | with_reducible exact cst6 | with_reducible exact cst7 | with_reducible exact cst8 | with_reducible exact cst14 | with_reducible exact cst15 | with_reducible exact cst25 | with_reducible exact cst30 | with_reducible exact cst31 | fail) (by first | with_reducible rfl | with_reducible exact cst1 | with_reducible exact cst0 | with_reducible exact cst2 | with_reducible exact cst3 | with_reducible exact cst4 | with_reducible exact cst5 | with_reducible exact cst6 | with_reducible exact cst7 | with_reducible exact cst8 | with_reducible exact cst14 | with_reducible exact cst15 | with_reducible exact cst25 | with_reducible exact cst30 | with_reducible exact cst31 | fail) ?_ ?_; · (repeat' (first | omega | refine And.intro ?_ ?_ | exact bnd_andl (by omega) | exact bnd_andr (by omega) | refine bnd_or ?_ ?_ | refine bnd_or31 ?_ ?_ | refine bnd_xor ?_ ?_ | refine bnd_xor31 ?_ ?_ | refine bnd_shr ?_ | refine bnd_shl ?_ ?_ | refine bnd_mod ?_ | refine bnd_andl ?_ | fail))) | refine EqN.remN _ _ (by first | with_reducible rfl | with_reducible exact cst1 | with_reducible exact cst0 | with_reducible exact cst2 | with_reducible exact cst3 | with_reducible exact cst4 | with_reducible exact cst5 | with_reducible exact cst6 | with_reducible exact cst7 | with_reducible exact cst8 | with_reducible exact cst14 | with_reducible exact cst15 | with_reducible exact cst25 | with_reducible exact cst30 | with_reducible exact cst31 | fail) (by first | with_reducible rfl | with_reducible exact cst1 | with_reducible exact cst0 | with_reducible exact cst2 | with_reducible exact cst3 | with_reducible exact cst4 | with_reducible exact cst5 | with_reducible exact cst6 | with_reducible exact cst7 | with_reducible exact cst8 | with_reducible exact cst14 | with_reducible exact cst15 | with_reducible exact cst25 | with_reducible exact cst30 | with_reducible exact cst31 | fail) ?_ | fail) | (refine SideN.mk ?_ ?_; · first | kernel_rfl | omega | exact List.cons_ne_nil _ _ | (simp; done) | (simp; omega) | exact trivial | assumption | fail) | (refine CallN.id ?_; first | refine CallN.det _ (atom_c 80 _) ?_ | fail) | refine SegN.nth 0 i rfl (by omega) (fun _ => rfl) ?_ | refine SideN.mk ⟨rfl, rfl, rfl, by dsimp only; omega, by simp only [maxLen]; omega⟩ ?_ | (refine PtrN.id ?_; first | refine PtrN.loc _ rfl ?_ | fail) | refine DrawN.mk' [] ?_ | fail))); all_goals (conv => whnf)
      refine ⟨⟨i + 1, 1, _, _, _, ⟨by omega, by omega⟩, by omega, ⟨⟨_, rfl, Wk.refl _⟩, trivial⟩, ⟨⟨_, rfl, Wk.refl _⟩, ⟨_, rfl, Wk.refl _⟩, trivial⟩, rfl, rfl, ?_, ?_, by omega, rfl, rfl, ⟨_, rfl⟩, by simp [belowRE, below, tr], by simp [belowH, Blk.below, belowL, below], fms_below _ _⟩⟩
      all_goals rw [hS]; simp [stp, gF, Fm.cells]; try omega
    · (repeat' ((conv => whnf); (first | (refine IfN.id ?_; first | refine IfN.tt rfl ?_ | refine IfN.dT (by omega) ?_ | fail) | (refine EqN.id ?_; first | refine EqN.remC _ rfl rfl hc ?_ | (refine EqN.addN _ _ (by first | with_reducible rfl | with_reducible exact cst1 | with_reducible exact cst0 | with_reducible exact cst2 | with_reducible exact cst3 | with_reducible exact cst4 | with_reducible exact cst5 | with_reducible exact cst6 | with_reducible exact cst7 | with_reducible exact cst8 | with_reducible exact cst14 | with_reducible exact cst15 | with_reducible exact cst25 | with_reducible exact cst30 | with_reducible exact cst31 | fail) (by first | with_reducible rfl | with_reducible exact cst1 | with_reducible exact cst0 | with_reducible exact cst2 | with_reducible exact cst3 | with_reducible exact cst4 | with_reducible exact cst5 | with_reducible exact cst6 | with_reducible exact cst7 | with_reducible exact cst8 | with_reducible exact cst14 | with_reducible exact cst15 | with_reducible exact cst25 | with_reducible exact cst30 | with_reducible exact cst31 | fail) ?_ ?_; · (repeat' (first | omega | refine And.intro ?_ ?_ | exact bnd_andl (by omega) | exact bnd_andr (by omega) | refine bnd_or ?_ ?_ | refine bnd_or31 ?_ ?_ | refine bnd_xor ?_ ?_ | refine bnd_xor31 ?_ ?_ | refine bnd_shr ?_ | refine bnd_shl ?_ ?_ | refine bnd_mod ?_ | refine bnd_andl ?_ | fail))) | refine EqN.remN _ _ (by first | with_reducible rfl | with_reducible exact cst1 | with_reducible exact cst0 | with_reducible exact cst2 | with_reducible exact cst3 | with_reducible exact cst4 | with_reducible exact cst5 | with_reducible exact cst6 | with_reducible exact cst7 | with_reducible exact cst8 | with_reducible exact cst14 | with_reducible exact cst15 | with_reducible exact cst25 | with_reducible exact cst30 | with_reducible exact cst31 | fail) (by first | with_reducible rfl | with_reducible exact cst1 | with_reducible exact cst0 | with_reducible exact cst2 | with_reducible exact cst3 | with_reducible exact cst4 | with_reducible exact cst5 | with_reducible exact cst6 | with_reducible exact cst7 | with_reducible exact cst8 | with_reducible exact cst14 | with_reducible exact cst15 | with_reducible exact cst25 | with_reducible exact cst30 | with_reducible exact cst31 | fail) ?_ | fail) | (refine SideN.mk ?_ ?_; · first | kernel_rfl | omega | exact List.cons_ne_nil _ _ | (simp; done) | (simp; omega) | exact trivial | assumption | fail) | (refine CallN.id ?_; first | refine CallN.det _ (atom_c 81 _) ?_ | fail) | refine SegN.nth 0 i rfl (by omega) (fun _ => rfl) ?_ | refine SideN.mk ⟨rfl, rfl, rfl, by dsimp only; omega, by simp only [maxLen]; omega⟩ ?_ | (refine PtrN.id ?_; first | refine PtrN.loc _ rfl ?_ | fail) | refine DrawN.mk' [] ?_ | fail))); all_goals (conv => whnf)
      refine ⟨⟨i + 1, 1, _, _, _, ⟨by omega, by omega⟩, by omega, ⟨⟨_, rfl, Wk.refl _⟩, trivial⟩, ⟨⟨_, rfl, Wk.refl _⟩, ⟨_, rfl, Wk.refl _⟩, trivial⟩, rfl, rfl, ?_, ?_, by omega, rfl, rfl, ⟨_, rfl⟩, by simp [belowRE, below, tr], by simp [belowH, Blk.below, belowL, below], fms_below _ _⟩⟩
      all_goals rw [hS]; simp [stp, gF, Fm.cells]; try omega
    · (repeat' ((conv => whnf); (first | (refine IfN.id ?_; first | refine IfN.tt rfl ?_ | refine IfN.dT (by omega) ?_ | fail) | (refine EqN.id ?_; first | refine EqN.remC _ rfl rfl hc ?_ | (refine EqN.addN _ _ (by first | with_reducible rfl | with_reducible exact cst1 | with_reducible exact cst0 | with_reducible exact cst2 | with_reducible exact cst3 | with_reducible exact cst4 | with_reducible exact cst5 | with_reducible exact cst6 | with_reducible exact cst7 | with_reducible exact cst8 | with_reducible exact cst14 | with_reducible exact cst15 | with_reducible exact cst25 | with_reducible exact cst30 | with_reducible exact cst31 | fail) (by first | with_reducible rfl | with_reducible exact cst1 | with_reducible exact cst0 | with_reducible exact cst2 | with_reducible exact cst3 | with_reducible exact cst4 | with_reducible exact cst5 | with_reducible exact cst6 | with_reducible exact cst7 | with_reducible exact cst8 | with_reducible exact cst14 | with_reducible exact cst15 | with_reducible exact cst25 | with_reducible exact cst30 | with_reducible exact cst31 | fail) ?_ ?_; · (repeat' (first | omega | refine And.intro ?_ ?_ | exact bnd_andl (by omega) | exact bnd_andr (by omega) | refine bnd_or ?_ ?_ | refine bnd_or31 ?_ ?_ | refine bnd_xor ?_ ?_ | refine bnd_xor31 ?_ ?_ | refine bnd_shr ?_ | refine bnd_shl ?_ ?_ | refine bnd_mod ?_ | refine bnd_andl ?_ | fail))) | refine EqN.remN _ _ (by first | with_reducible rfl | with_reducible exact cst1 | with_reducible exact cst0 | with_reducible exact cst2 | with_reducible exact cst3 | with_reducible exact cst4 | with_reducible exact cst5 | with_reducible exact cst6 | with_reducible exact cst7 | with_reducible exact cst8 | with_reducible exact cst14 | with_reducible exact cst15 | with_reducible exact cst25 | with_reducible exact cst30 | with_reducible exact cst31 | fail) (by first | with_reducible rfl | with_reducible exact cst1 | with_reducible exact cst0 | with_reducible exact cst2 | with_reducible exact cst3 | with_reducible exact cst4 | with_reducible exact cst5 | with_reducible exact cst6 | with_reducible exact cst7 | with_reducible exact cst8 | with_reducible exact cst14 | with_reducible exact cst15 | with_reducible exact cst25 | with_reducible exact cst30 | with_reducible exact cst31 | fail) ?_ | fail) | (refine SideN.mk ?_ ?_; · first | kernel_rfl | omega | exact List.cons_ne_nil _ _ | (simp; done) | (simp; omega) | exact trivial | assumption | fail) | (refine CallN.id ?_; first | refine CallN.det _ (atom_c 82 _) ?_ | fail) | refine SegN.nth 0 i rfl (by omega) (fun _ => rfl) ?_ | refine SideN.mk ⟨rfl, rfl, rfl, by dsimp only; omega, by simp only [maxLen]; omega⟩ ?_ | (refine PtrN.id ?_; first | refine PtrN.loc _ rfl ?_ | fail) | refine DrawN.mk' [] ?_ | fail))); all_goals (conv => whnf)
      refine ⟨⟨i + 1, 1, _, _, _, ⟨by omega, by omega⟩, by omega, ⟨⟨_, rfl, Wk.refl _⟩, trivial⟩, ⟨⟨_, rfl, Wk.refl _⟩, ⟨_, rfl, Wk.refl _⟩, trivial⟩, rfl, rfl, ?_, ?_, by omega, rfl, rfl, ⟨_, rfl⟩, by simp [belowRE, below, tr], by simp [belowH, Blk.below, belowL, below], fms_below _ _⟩⟩
      all_goals rw [hS]; simp [stp, gF, Fm.cells]; try omega
    · (repeat' ((conv => whnf); (first | (refine IfN.id ?_; first | refine IfN.tt rfl ?_ | refine IfN.ff rfl ?_ | refine IfN.dT (by omega) ?_ | fail) | (refine EqN.id ?_; first | refine EqN.remC _ rfl rfl hc ?_ | (refine EqN.addN _ _ (by first | with_reducible rfl | with_reducible exact cst1 | with_reducible exact cst0 | with_reducible exact cst2 | with_reducible exact cst3 | with_reducible exact cst4 | with_reducible exact cst5 | with_reducible exact cst6 | with_reducible exact cst7 | with_reducible exact cst8 | with_reducible exact cst14 | with_reducible exact cst15 | with_reducible exact cst25 | with_reducible exact cst30 | with_reducible exact cst31 | fail) (by first | with_reducible rfl | with_reducible exact cst1 | with_reducible exact cst0 | with_reducible exact cst2 | with_reducible exact cst3 | with_reducible exact cst4 | with_reducible exact cst5 | with_reducible exact cst6 | with_reducible exact cst7 | with_reducible exact cst8 | with_reducible exact cst14 | with_reducible exact cst15 | with_reducible exact cst25 | with_reducible exact cst30 | with_reducible exact cst31 | fail) ?_ ?_; · (repeat' (first | omega | refine And.intro ?_ ?_ | exact bnd_andl (by omega) | exact bnd_andr (by omega) | refine bnd_or ?_ ?_ | refine bnd_or31 ?_ ?_ | refine bnd_xor ?_ ?_ | refine bnd_xor31 ?_ ?_ | refine bnd_shr ?_ | refine bnd_shl ?_ ?_ | refine bnd_mod ?_ | refine bnd_andl ?_ | fail))) | fail) | (refine SideN.mk ?_ ?_; · first | kernel_rfl | omega | exact List.cons_ne_nil _ _ | (simp; done) | (simp; omega) | exact trivial | assumption | fail) | (refine CallN.id ?_; first | refine CallN.det _ (VDet.wk (join0_c _) ⟨Wk.refl _, wk_nils, trivial⟩) ?_ | fail) | refine SegN.nth 0 i rfl (by omega) (fun _ => rfl) ?_ | refine SideN.mk ⟨rfl, rfl, rfl, by dsimp only; omega, by simp only [maxLen]; omega⟩ ?_ | (refine PtrN.id ?_; first | refine PtrN.loc _ rfl ?_ | fail) | refine DrawN.mk' [] ?_ | fail))); all_goals (conv => whnf)
      refine ⟨⟨i + 1, 1, _, _, _, ⟨by omega, by omega⟩, by omega, ⟨⟨_, rfl, Wk.refl _⟩, trivial⟩, ⟨⟨_, rfl, Wk.refl _⟩, ⟨_, rfl, Wk.refl _⟩, trivial⟩, rfl, rfl, ?_, ?_, by omega, rfl, rfl, ⟨_, rfl⟩, by simp [belowRE, below, tr], by simp [belowH, Blk.below, belowL, below], fms_below _ _⟩⟩
      all_goals rw [hS]; simp [stp, gF, Fm.cells]; try omega
    · (repeat' ((conv => whnf); (first | (refine IfN.id ?_; first | refine IfN.tt rfl ?_ | refine IfN.ff rfl ?_ | refine IfN.dT (by omega) ?_ | refine IfN.dec (fun _ => ?_) (fun _ => ?_) | fail) | (refine EqN.id ?_; first | refine EqN.remC _ rfl rfl hc ?_ | (refine EqN.addN _ _ (by first | with_reducible rfl | with_reducible exact cst1 | with_reducible exact cst0 | with_reducible exact cst2 | with_reducible exact cst3 | with_reducible exact cst4 | with_reducible exact cst5 | with_reducible exact cst6 | with_reducible exact cst7 | with_reducible exact cst8 | with_reducible exact cst14 | with_reducible exact cst15 | with_reducible exact cst25 | with_reducible exact cst30 | with_reducible exact cst31 | fail) (by first | with_reducible rfl | with_reducible exact cst1 | with_reducible exact cst0 | with_reducible exact cst2 | with_reducible exact cst3 | with_reducible exact cst4 | with_reducible exact cst5 | with_reducible exact cst6 | with_reducible exact cst7 | with_reducible exact cst8 | with_reducible exact cst14 | with_reducible exact cst15 | with_reducible exact cst25 | with_reducible exact cst30 | with_reducible exact cst31 | fail) ?_ ?_; · (repeat' (first | omega | refine And.intro ?_ ?_ | exact bnd_andl (by omega) | exact bnd_andr (by omega) | refine bnd_or ?_ ?_ | refine bnd_or31 ?_ ?_ | refine bnd_xor ?_ ?_ | refine bnd_xor31 ?_ ?_ | refine bnd_shr ?_ | refine bnd_shl ?_ ?_ | refine bnd_mod ?_ | refine bnd_andl ?_ | fail))) | (refine EqN.subN _ _ (by first | with_reducible rfl | with_reducible exact cst1 | with_reducible exact cst0 | with_reducible exact cst2 | with_reducible exact cst3 | with_reducible exact cst4 | with_reducible exact cst5 | with_reducible exact cst6 | with_reducible exact cst7 | with_reducible exact cst8 | with_reducible exact cst14 | with_reducible exact cst15 | with_reducible exact cst25 | with_reducible exact cst30 | with_reducible exact cst31 | fail) (by first | with_reducible rfl | with_reducible exact cst1 | with_reducible exact cst0 | with_reducible exact cst2 | with_reducible exact cst3 | with_reducible exact cst4 | with_reducible exact cst5 | with_reducible exact cst6 | with_reducible exact cst7 | with_reducible exact cst8 | with_reducible exact cst14 | with_reducible exact cst15 | with_reducible exact cst25 | with_reducible exact cst30 | with_reducible exact cst31 | fail) ?_ ?_; · (repeat' (first | omega | refine And.intro ?_ ?_ | exact bnd_andl (by omega) | exact bnd_andr (by omega) | refine bnd_or ?_ ?_ | refine bnd_or31 ?_ ?_ | refine bnd_xor ?_ ?_ | refine bnd_xor31 ?_ ?_ | refine bnd_shr ?_ | refine bnd_shl ?_ ?_ | refine bnd_mod ?_ | refine bnd_andl ?_ | fail))) | fail) | (refine SideN.mk ?_ ?_; · first | kernel_rfl | omega | exact List.cons_ne_nil _ _ | (simp; done) | (simp; omega) | exact trivial | assumption | fail) | refine NatN.mk _ rfl ?_ | (refine CallD.id ?_; first | refine CallD.det _ (fun _ hq X => VDet.wk (join1_c 3 (gF S (S.length - 1)) _) ⟨Wk.refl _, wk_sx _ _, trivial⟩) ?_ | fail) | refine SegN.nth 0 i rfl (by omega) (fun _ => rfl) ?_ | refine SegN.nth Fm.fa (S.length - 1) (by omega) (by omega) (fun _ => rfl) ?_ | refine SubN.flat (lo := 0) (n := S.length - 1 - 0) (fun _ => rfl) (by omega) ?_ | refine OrN.l ?_ | refine SideN.mk ⟨Nat.le_of_ble_eq_true rfl, by rw [flat_length (sz := 4) (fun _ => rfl)]; simp; done, rfl, by dsimp only; omega, by simp only [maxLen]; omega⟩ ?_ | refine DrawN.mk' [] ?_ | fail))); all_goals (conv => whnf)
      · refine ⟨⟨i + 1, 2, _, _, _, ⟨by omega, by omega⟩, by omega, ⟨⟨_, rfl, Wk.refl _⟩, trivial⟩, ⟨⟨_, rfl, Wk.refl _⟩, ⟨_, rfl, Wk.refl _⟩, trivial⟩, rfl, rfl, ?_, ?_, by omega, rfl, rfl, ⟨_, rfl⟩, by simp [belowRE, below, tr], by simp [belowH, Blk.below, belowL, below], fms_below _ _⟩⟩
        all_goals rw [hS]; simp [stp, gF, Fm.cells, show 1 ≤ S.length by omega]; try omega
      · refine ⟨⟨i + 1, 1, _, _, _, ⟨by omega, by omega⟩, by omega, ⟨⟨_, rfl, Wk.refl _⟩, trivial⟩, ⟨⟨_, rfl, Wk.refl _⟩, ⟨_, rfl, Wk.refl _⟩, trivial⟩, rfl, rfl, ?_, ?_, by omega, rfl, rfl, ⟨_, rfl⟩, by simp [belowRE, below, tr], by simp [belowH, Blk.below, belowL, below], fms_below _ _⟩⟩
        all_goals rw [hS]; simp [stp, gF, Fm.cells, show ¬ 1 ≤ S.length by omega]; try omega
    · (repeat' ((conv => whnf); (first | (refine IfN.id ?_; first | refine IfN.tt rfl ?_ | refine IfN.ff rfl ?_ | refine IfN.dT (by omega) ?_ | refine IfN.dec (fun _ => ?_) (fun _ => ?_) | fail) | (refine EqN.id ?_; first | refine EqN.remC _ rfl rfl hc ?_ | (refine EqN.addN _ _ (by first | with_reducible rfl | with_reducible exact cst1 | with_reducible exact cst0 | with_reducible exact cst2 | with_reducible exact cst3 | with_reducible exact cst4 | with_reducible exact cst5 | with_reducible exact cst6 | with_reducible exact cst7 | with_reducible exact cst8 | with_reducible exact cst14 | with_reducible exact cst15 | with_reducible exact cst25 | with_reducible exact cst30 | with_reducible exact cst31 | fail) (by first | with_reducible rfl | with_reducible exact cst1 | with_reducible exact cst0 | with_reducible exact cst2 | with_reducible exact cst3 | with_reducible exact cst4 | with_reducible exact cst5 | with_reducible exact cst6 | with_reducible exact cst7 | with_reducible exact cst8 | with_reducible exact cst14 | with_reducible exact cst15 | with_reducible exact cst25 | with_reducible exact cst30 | with_reducible exact cst31 | fail) ?_ ?_; · (repeat' (first | omega | refine And.intro ?_ ?_ | exact bnd_andl (by omega) | exact bnd_andr (by omega) | refine bnd_or ?_ ?_ | refine bnd_or31 ?_ ?_ | refine bnd_xor ?_ ?_ | refine bnd_xor31 ?_ ?_ | refine bnd_shr ?_ | refine bnd_shl ?_ ?_ | refine bnd_mod ?_ | refine bnd_andl ?_ | fail))) | (refine EqN.subN _ _ (by first | with_reducible rfl | with_reducible exact cst1 | with_reducible exact cst0 | with_reducible exact cst2 | with_reducible exact cst3 | with_reducible exact cst4 | with_reducible exact cst5 | with_reducible exact cst6 | with_reducible exact cst7 | with_reducible exact cst8 | with_reducible exact cst14 | with_reducible exact cst15 | with_reducible exact cst25 | with_reducible exact cst30 | with_reducible exact cst31 | fail) (by first | with_reducible rfl | with_reducible exact cst1 | with_reducible exact cst0 | with_reducible exact cst2 | with_reducible exact cst3 | with_reducible exact cst4 | with_reducible exact cst5 | with_reducible exact cst6 | with_reducible exact cst7 | with_reducible exact cst8 | with_reducible exact cst14 | with_reducible exact cst15 | with_reducible exact cst25 | with_reducible exact cst30 | with_reducible exact cst31 | fail) ?_ ?_; · (repeat' (first | omega | refine And.intro ?_ ?_ | exact bnd_andl (by omega) | exact bnd_andr (by omega) | refine bnd_or ?_ ?_ | refine bnd_or31 ?_ ?_ | refine bnd_xor ?_ ?_ | refine bnd_xor31 ?_ ?_ | refine bnd_shr ?_ | refine bnd_shl ?_ ?_ | refine bnd_mod ?_ | refine bnd_andl ?_ | fail))) | refine EqN.remN _ _ (by first | with_reducible rfl | with_reducible exact cst1 | with_reducible exact cst0 | with_reducible exact cst2 | with_reducible exact cst3 | with_reducible exact cst4 | with_reducible exact cst5 | with_reducible exact cst6 | with_reducible exact cst7 | with_reducible exact cst8 | with_reducible exact cst14 | with_reducible exact cst15 | with_reducible exact cst25 | with_reducible exact cst30 | with_reducible exact cst31 | fail) (by first | with_reducible rfl | with_reducible exact cst1 | with_reducible exact cst0 | with_reducible exact cst2 | with_reducible exact cst3 | with_reducible exact cst4 | with_reducible exact cst5 | with_reducible exact cst6 | with_reducible exact cst7 | with_reducible exact cst8 | with_reducible exact cst14 | with_reducible exact cst15 | with_reducible exact cst25 | with_reducible exact cst30 | with_reducible exact cst31 | fail) ?_ | fail) | (refine SideN.mk ?_ ?_; · first | kernel_rfl | omega | exact List.cons_ne_nil _ _ | (simp; done) | (simp; omega) | exact trivial | assumption | fail) | refine NatN.mk _ rfl ?_ | (refine CallD.id ?_; first | refine CallD.det _ (fun _ hq X => VDet.wk (join2_c 4 (gF S (S.length - 2)) (gF S (S.length - 1)) _) ⟨Wk.refl _, wk_sx _ _, trivial⟩) ?_ | fail) | refine SegN.nth 0 i rfl (by omega) (fun _ => rfl) ?_ | refine SegN.nth Fm.fa (S.length - 2) (by omega) (by omega) (fun _ => rfl) ?_ | refine SegN.nth Fm.fa (S.length - 1) (by omega) (by omega) (fun _ => rfl) ?_ | refine SubN.flat (lo := 0) (n := S.length - 2 - 0) (fun _ => rfl) (by omega) ?_ | refine OrN.l ?_ | refine SideN.mk ⟨Nat.le_of_ble_eq_true rfl, by rw [flat_length (sz := 4) (fun _ => rfl)]; simp; done, rfl, by dsimp only; omega, by simp only [maxLen]; omega⟩ ?_ | refine DrawN.mk' [] ?_ | fail))); all_goals (conv => whnf)
      · refine ⟨⟨i + 1, 2, _, _, _, ⟨by omega, by omega⟩, by omega, ⟨⟨_, rfl, Wk.refl _⟩, trivial⟩, ⟨⟨_, rfl, Wk.refl _⟩, ⟨_, rfl, Wk.refl _⟩, trivial⟩, rfl, rfl, ?_, ?_, by omega, rfl, rfl, ⟨_, rfl⟩, by simp [belowRE, below, tr], by simp [belowH, Blk.below, belowL, below], fms_below _ _⟩⟩
        all_goals rw [hS]; simp [stp, gF, Fm.cells, show 2 ≤ S.length by omega]; try omega
      · refine ⟨⟨i + 1, 1, _, _, _, ⟨by omega, by omega⟩, by omega, ⟨⟨_, rfl, Wk.refl _⟩, trivial⟩, ⟨⟨_, rfl, Wk.refl _⟩, ⟨_, rfl, Wk.refl _⟩, trivial⟩, rfl, rfl, ?_, ?_, by omega, rfl, rfl, ⟨_, rfl⟩, by simp [belowRE, below, tr], by simp [belowH, Blk.below, belowL, below], fms_below _ _⟩⟩
        all_goals rw [hS]; simp [stp, gF, Fm.cells, show ¬ 2 ≤ S.length by omega]; try omega
    · (repeat' ((conv => whnf); (first | (refine IfN.id ?_; first | refine IfN.tt rfl ?_ | refine IfN.ff rfl ?_ | refine IfN.dT (by omega) ?_ | refine IfN.dec (fun _ => ?_) (fun _ => ?_) | fail) | (refine EqN.id ?_; first | refine EqN.remC _ rfl rfl hc ?_ | (refine EqN.addN _ _ (by first | with_reducible rfl | with_reducible exact cst1 | with_reducible exact cst0 | with_reducible exact cst2 | with_reducible exact cst3 | with_reducible exact cst4 | with_reducible exact cst5 | with_reducible exact cst6 | with_reducible exact cst7 | with_reducible exact cst8 | with_reducible exact cst14 | with_reducible exact cst15 | with_reducible exact cst25 | with_reducible exact cst30 | with_reducible exact cst31 | fail) (by first | with_reducible rfl | with_reducible exact cst1 | with_reducible exact cst0 | with_reducible exact cst2 | with_reducible exact cst3 | with_reducible exact cst4 | with_reducible exact cst5 | with_reducible exact cst6 | with_reducible exact cst7 | with_reducible exact cst8 | with_reducible exact cst14 | with_reducible exact cst15 | with_reducible exact cst25 | with_reducible exact cst30 | with_reducible exact cst31 | fail) ?_ ?_; · (repeat' (first | omega | refine And.intro ?_ ?_ | exact bnd_andl (by omega) | exact bnd_andr (by omega) | refine bnd_or ?_ ?_ | refine bnd_or31 ?_ ?_ | refine bnd_xor ?_ ?_ | refine bnd_xor31 ?_ ?_ | refine bnd_shr ?_ | refine bnd_shl ?_ ?_ | refine bnd_mod ?_ | refine bnd_andl ?_ | fail))) | (refine EqN.subN _ _ (by first | with_reducible rfl | with_reducible exact cst1 | with_reducible exact cst0 | with_reducible exact cst2 | with_reducible exact cst3 | with_reducible exact cst4 | with_reducible exact cst5 | with_reducible exact cst6 | with_reducible exact cst7 | with_reducible exact cst8 | with_reducible exact cst14 | with_reducible exact cst15 | with_reducible exact cst25 | with_reducible exact cst30 | with_reducible exact cst31 | fail) (by first | with_reducible rfl | with_reducible exact cst1 | with_reducible exact cst0 | with_reducible exact cst2 | with_reducible exact cst3 | with_reducible exact cst4 | with_reducible exact cst5 | with_reducible exact cst6 | with_reducible exact cst7 | with_reducible exact cst8 | with_reducible exact cst14 | with_reducible exact cst15 | with_reducible exact cst25 | with_reducible exact cst30 | with_reducible exact cst31 | fail) ?_ ?_; · (repeat' (first | omega | refine And.intro ?_ ?_ | exact bnd_andl (by omega) | exact bnd_andr (by omega) | refine bnd_or ?_ ?_ | refine bnd_or31 ?_ ?_ | refine bnd_xor ?_ ?_ | refine bnd_xor31 ?_ ?_ | refine bnd_shr ?_ | refine bnd_shl ?_ ?_ | refine bnd_mod ?_ | refine bnd_andl ?_ | fail))) | refine EqN.remN _ _ (by first | with_reducible rfl | with_reducible exact cst1 | with_reducible exact cst0 | with_reducible exact cst2 | with_reducible exact cst3 | with_reducible exact cst4 | with_reducible exact cst5 | with_reducible exact cst6 | with_reducible exact cst7 | with_reducible exact cst8 | with_reducible exact cst14 | with_reducible exact cst15 | with_reducible exact cst25 | with_reducible exact cst30 | with_reducible exact cst31 | fail) (by first | with_reducible rfl | with_reducible exact cst1 | with_reducible exact cst0 | with_reducible exact cst2 | with_reducible exact cst3 | with_reducible exact cst4 | with_reducible exact cst5 | with_reducible exact cst6 | with_reducible exact cst7 | with_reducible exact cst8 | with_reducible exact cst14 | with_reducible exact cst15 | with_reducible exact cst25 | with_reducible exact cst30 | with_reducible exact cst31 | fail) ?_ | fail) | (refine SideN.mk ?_ ?_; · first | kernel_rfl | omega | exact List.cons_ne_nil _ _ | (simp; done) | (simp; omega) | exact trivial | assumption | fail) | refine NatN.mk _ rfl ?_ | (refine CallD.id ?_; first | refine CallD.det _ (fun _ hq X => VDet.wk (join2_c 5 (gF S (S.length - 2)) (gF S (S.length - 1)) _) ⟨Wk.refl _, wk_sx _ _, trivial⟩) ?_ | fail) | refine SegN.nth 0 i rfl (by omega) (fun _ => rfl) ?_ | refine SegN.nth Fm.fa (S.length - 2) (by omega) (by omega) (fun _ => rfl) ?_ | refine SegN.nth Fm.fa (S.length - 1) (by omega) (by omega) (fun _ => rfl) ?_ | refine SubN.flat (lo := 0) (n := S.length - 2 - 0) (fun _ => rfl) (by omega) ?_ | refine OrN.l ?_ | refine SideN.mk ⟨Nat.le_of_ble_eq_true rfl, by rw [flat_length (sz := 4) (fun _ => rfl)]; simp; done, rfl, by dsimp only; omega, by simp only [maxLen]; omega⟩ ?_ | refine DrawN.mk' [] ?_ | fail))); all_goals (conv => whnf)
      · refine ⟨⟨i + 1, 2, _, _, _, ⟨by omega, by omega⟩, by omega, ⟨⟨_, rfl, Wk.refl _⟩, trivial⟩, ⟨⟨_, rfl, Wk.refl _⟩, ⟨_, rfl, Wk.refl _⟩, trivial⟩, rfl, rfl, ?_, ?_, by omega, rfl, rfl, ⟨_, rfl⟩, by simp [belowRE, below, tr], by simp [belowH, Blk.below, belowL, below], fms_below _ _⟩⟩
        all_goals rw [hS]; simp [stp, gF, Fm.cells, show 2 ≤ S.length by omega]; try omega
      · refine ⟨⟨i + 1, 1, _, _, _, ⟨by omega, by omega⟩, by omega, ⟨⟨_, rfl, Wk.refl _⟩, trivial⟩, ⟨⟨_, rfl, Wk.refl _⟩, ⟨_, rfl, Wk.refl _⟩, trivial⟩, rfl, rfl, ?_, ?_, by omega, rfl, rfl, ⟨_, rfl⟩, by simp [belowRE, below, tr], by simp [belowH, Blk.below, belowL, below], fms_below _ _⟩⟩
        all_goals rw [hS]; simp [stp, gF, Fm.cells, show ¬ 2 ≤ S.length by omega]; try omega
    · (repeat' ((conv => whnf); (first | (refine IfN.id ?_; first | refine IfN.tt rfl ?_ | refine IfN.ff rfl ?_ | refine IfN.dT (by omega) ?_ | refine IfN.dec (fun _ => ?_) (fun _ => ?_) | fail) | (refine EqN.id ?_; first | refine EqN.remC _ rfl rfl hc ?_ | (refine EqN.addN _ _ (by first | with_reducible rfl | with_reducible exact cst1 | with_reducible exact cst0 | with_reducible exact cst2 | with_reducible exact cst3 | with_reducible exact cst4 | with_reducible exact cst5 | with_reducible exact cst6 | with_reducible exact cst7 | with_reducible exact cst8 | with_reducible exact cst14 | with_reducible exact cst15 | with_reducible exact cst25 | with_reducible exact cst30 | with_reducible exact cst31 | fail) (by first | with_reducible rfl | with_reducible exact cst1 | with_reducible exact cst0 | with_reducible exact cst2 | with_reducible exact cst3 | with_reducible exact cst4 | with_reducible exact cst5 | with_reducible exact cst6 | with_reducible exact cst7 | with_reducible exact cst8 | with_reducible exact cst14 | with_reducible exact cst15 | with_reducible exact cst25 | with_reducible exact cst30 | with_reducible exact cst31 | fail) ?_ ?_; · (repeat' (first | omega | refine And.intro ?_ ?_ | exact bnd_andl (by omega) | exact bnd_andr (by omega) | refine bnd_or ?_ ?_ | refine bnd_or31 ?_ ?_ | refine bnd_xor ?_ ?_ | refine bnd_xor31 ?_ ?_ | refine bnd_shr ?_ | refine bnd_shl ?_ ?_ | refine bnd_mod ?_ | refine bnd_andl ?_ | fail))) | (refine EqN.subN _ _ (by first | with_reducible rfl | with_reducible exact cst1 | with_reducible exact cst0 | with_reducible exact cst2 | with_reducible exact cst3 | with_reducible exact cst4 | with_reducible exact cst5 | with_reducible exact cst6 | with_reducible exact cst7 | with_reducible exact cst8 | with_reducible exact cst14 | with_reducible exact cst15 | with_reducible exact cst25 | with_reducible exact cst30 | with_reducible exact cst31 | fail) (by first | with_reducible rfl | with_reducible exact cst1 | with_reducible exact cst0 | with_reducible exact cst2 | with_reducible exact cst3 | with_reducible exact cst4 | with_reducible exact cst5 | with_reducible exact cst6 | with_reducible exact cst7 | with_reducible exact cst8 | with_reducible exact cst14 | with_reducible exact cst15 | with_reducible exact cst25 | with_reducible exact cst30 | with_reducible exact cst31 | fail) ?_ ?_; · (repeat' (first | omega | refine And.intro ?_ ?_ | exact bnd_andl (by omega) | exact bnd_andr (by omega) | refine bnd_or ?_ ?_ | refine bnd_or31 ?_ ?_ | refine bnd_xor ?_ ?_ | refine bnd_xor31 ?_ ?_ | refine bnd_shr ?_ | refine bnd_shl ?_ ?_ | refine bnd_mod ?_ | refine bnd_andl ?_ | fail))) | refine EqN.remN _ _ (by first | with_reducible rfl | with_reducible exact cst1 | with_reducible exact cst0 | with_reducible exact cst2 | with_reducible exact cst3 | with_reducible exact cst4 | with_reducible exact cst5 | with_reducible exact cst6 | with_reducible exact cst7 | with_reducible exact cst8 | with_reducible exact cst14 | with_reducible exact cst15 | with_reducible exact cst25 | with_reducible exact cst30 | with_reducible exact cst31 | fail) (by first | with_reducible rfl | with_reducible exact cst1 | with_reducible exact cst0 | with_reducible exact cst2 | with_reducible exact cst3 | with_reducible exact cst4 | with_reducible exact cst5 | with_reducible exact cst6 | with_reducible exact cst7 | with_reducible exact cst8 | with_reducible exact cst14 | with_reducible exact cst15 | with_reducible exact cst25 | with_reducible exact cst30 | with_reducible exact cst31 | fail) ?_ | fail) | (refine SideN.mk ?_ ?_; · first | kernel_rfl | omega | exact List.cons_ne_nil _ _ | (simp; done) | (simp; omega) | exact trivial | assumption | fail) | refine NatN.mk _ rfl ?_ | (refine CallD.id ?_; first | refine CallD.det _ (fun _ hq X => VDet.wk (join2_c 6 (gF S (S.length - 2)) (gF S (S.length - 1)) _) ⟨Wk.refl _, wk_sx _ _, trivial⟩) ?_ | fail) | refine SegN.nth 0 i rfl (by omega) (fun _ => rfl) ?_ | refine SegN.nth Fm.fa (S.length - 2) (by omega) (by omega) (fun _ => rfl) ?_ | refine SegN.nth Fm.fa (S.length - 1) (by omega) (by omega) (fun _ => rfl) ?_ | refine SubN.flat (lo := 0) (n := S.length - 2 - 0) (fun _ => rfl) (by omega) ?_ | refine OrN.l ?_ | refine SideN.mk ⟨Nat.le_of_ble_eq_true rfl, by rw [flat_length (sz := 4) (fun _ => rfl)]; simp; done, rfl, by dsimp only; omega, by simp only [maxLen]; omega⟩ ?_ | refine DrawN.mk' [] ?_ | fail))); all_goals (conv => whnf)
      · refine ⟨⟨i + 1, 2, _, _, _, ⟨by omega, by omega⟩, by omega, ⟨⟨_, rfl, Wk.refl _⟩, trivial⟩, ⟨⟨_, rfl, Wk.refl _⟩, ⟨_, rfl, Wk.refl _⟩, trivial⟩, rfl, rfl, ?_, ?_, by omega, rfl, rfl, ⟨_, rfl⟩, by simp [belowRE, below, tr], by simp [belowH, Blk.below, belowL, below], fms_below _ _⟩⟩
        all_goals rw [hS]; simp [stp, gF, Fm.cells, show 2 ≤ S.length by omega]; try omega
      · refine ⟨⟨i + 1, 1, _, _, _, ⟨by omega, by omega⟩, by omega, ⟨⟨_, rfl, Wk.refl _⟩, trivial⟩, ⟨⟨_, rfl, Wk.refl _⟩, ⟨_, rfl, Wk.refl _⟩, trivial⟩, rfl, rfl, ?_, ?_, by omega, rfl, rfl, ⟨_, rfl⟩, by simp [belowRE, below, tr], by simp [belowH, Blk.below, belowL, below], fms_below _ _⟩⟩
        all_goals rw [hS]; simp [stp, gF, Fm.cells, show ¬ 2 ≤ S.length by omega]; try omega
    · (repeat' ((conv => whnf); (first | (refine IfN.id ?_; first | refine IfN.tt rfl ?_ | refine IfN.ff rfl ?_ | refine IfN.dT (by omega) ?_ | refine IfN.dec (fun _ => ?_) (fun _ => ?_) | fail) | (refine EqN.id ?_; first | refine EqN.remC _ rfl rfl hc ?_ | (refine EqN.addN _ _ (by first | with_reducible rfl | with_reducible exact cst1 | with_reducible exact cst0 | with_reducible exact cst2 | with_reducible exact cst3 | with_reducible exact cst4 | with_reducible exact cst5 | with_reducible exact cst6 | with_reducible exact cst7 | with_reducible exact cst8 | with_reducible exact cst14 | with_reducible exact cst15 | with_reducible exact cst25 | with_reducible exact cst30 | with_reducible exact cst31 | fail) (by first | with_reducible rfl | with_reducible exact cst1 | with_reducible exact cst0 | with_reducible exact cst2 | with_reducible exact cst3 | with_reducible exact cst4 | with_reducible exact cst5 | with_reducible exact cst6 | with_reducible exact cst7 | with_reducible exact cst8 | with_reducible exact cst14 | with_reducible exact cst15 | with_reducible exact cst25 | with_reducible exact cst30 | with_reducible exact cst31 | fail) ?_ ?_; · (repeat' (first | omega | refine And.intro ?_ ?_ | exact bnd_andl (by omega) | exact bnd_andr (by omega) | refine bnd_or ?_ ?_ | refine bnd_or31 ?_ ?_ | refine bnd_xor ?_ ?_ | refine bnd_xor31 ?_ ?_ | refine bnd_shr ?_ | refine bnd_shl ?_ ?_ | refine bnd_mod ?_ | refine bnd_andl ?_ | fail))) | (refine EqN.subN _ _ (by first | with_reducible rfl | with_reducible exact cst1 | with_reducible exact cst0 | with_reducible exact cst2 | with_reducible exact cst3 | with_reducible exact cst4 | with_reducible exact cst5 | with_reducible exact cst6 | with_reducible exact cst7 | with_reducible exact cst8 | with_reducible exact cst14 | with_reducible exact cst15 | with_reducible exact cst25 | with_reducible exact cst30 | with_reducible exact cst31 | fail) (by first | with_reducible rfl | with_reducible exact cst1 | with_reducible exact cst0 | with_reducible exact cst2 | with_reducible exact cst3 | with_reducible exact cst4 | with_reducible exact cst5 | with_reducible exact cst6 | with_reducible exact cst7 | with_reducible exact cst8 | with_reducible exact cst14 | with_reducible exact cst15 | with_reducible exact cst25 | with_reducible exact cst30 | with_reducible exact cst31 | fail) ?_ ?_; · (repeat' (first | omega | refine And.intro ?_ ?_ | exact bnd_andl (by omega) | exact bnd_andr (by omega) | refine bnd_or ?_ ?_ | refine bnd_or31 ?_ ?_ | refine bnd_xor ?_ ?_ | refine bnd_xor31 ?_ ?_ | refine bnd_shr ?_ | refine bnd_shl ?_ ?_ | refine bnd_mod ?_ | refine bnd_andl ?_ | fail))) | refine EqN.remN _ _ (by first | with_reducible rfl | with_reducible exact cst1 | with_reducible exact cst0 | with_reducible exact cst2 | with_reducible exact cst3 | with_reducible exact cst4 | with_reducible exact cst5 | with_reducible exact cst6 | with_reducible exact cst7 | with_reducible exact cst8 | with_reducible exact cst14 | with_reducible exact cst15 | with_reducible exact cst25 | with_reducible exact cst30 | with_reducible exact cst31 | fail) (by first | with_reducible rfl | with_reducible exact cst1 | with_reducible exact cst0 | with_reducible exact cst2 | with_reducible exact cst3 | with_reducible exact cst4 | with_reducible exact cst5 | with_reducible exact cst6 | with_reducible exact cst7 | with_reducible exact cst8 | with_reducible exact cst14 | with_reducible exact cst15 | with_reducible exact cst25 | with_reducible exact cst30 | with_reducible exact cst31 | fail) ?_ | fail) | (refine SideN.mk ?_ ?_; · first | kernel_rfl | omega | exact List.cons_ne_nil _ _ | (simp; done) | (simp; omega) | exact trivial | assumption | fail) | refine NatN.mk _ rfl ?_ | (refine CallD.id ?_; first | refine CallD.det _ (fun _ hq X => VDet.wk (join2_c 7 (gF S (S.length - 2)) (gF S (S.length - 1)) _) ⟨Wk.refl _, wk_sx _ _, trivial⟩) ?_ | fail) | refine SegN.nth 0 i rfl (by omega) (fun _ => rfl) ?_ | refine SegN.nth Fm.fa (S.length - 2) (by omega) (by omega) (fun _ => rfl) ?_ | refine SegN.nth Fm.fa (S.length - 1) (by omega) (by omega) (fun _ => rfl) ?_ | refine SubN.flat (lo := 0) (n := S.length - 2 - 0) (fun _ => rfl) (by omega) ?_ | refine OrN.l ?_ | refine SideN.mk ⟨Nat.le_of_ble_eq_true rfl, by rw [flat_length (sz := 4) (fun _ => rfl)]; simp; done, rfl, by dsimp only; omega, by simp only [maxLen]; omega⟩ ?_ | refine DrawN.mk' [] ?_ | fail))); all_goals (conv => whnf)
      · refine ⟨⟨i + 1, 2, _, _, _, ⟨by omega, by omega⟩, by omega, ⟨⟨_, rfl, Wk.refl _⟩, trivial⟩, ⟨⟨_, rfl, Wk.refl _⟩, ⟨_, rfl, Wk.refl _⟩, trivial⟩, rfl, rfl, ?_, ?_, by omega, rfl, rfl, ⟨_, rfl⟩, by simp [belowRE, below, tr], by simp [belowH, Blk.below, belowL, below], fms_below _ _⟩⟩
        all_goals rw [hS]; simp [stp, gF, Fm.cells, show 2 ≤ S.length by omega]; try omega
      · refine ⟨⟨i + 1, 1, _, _, _, ⟨by omega, by omega⟩, by omega, ⟨⟨_, rfl, Wk.refl _⟩, trivial⟩, ⟨⟨_, rfl, Wk.refl _⟩, ⟨_, rfl, Wk.refl _⟩, trivial⟩, rfl, rfl, ?_, ?_, by omega, rfl, rfl, ⟨_, rfl⟩, by simp [belowRE, below, tr], by simp [belowH, Blk.below, belowL, below], fms_below _ _⟩⟩
        all_goals rw [hS]; simp [stp, gF, Fm.cells, show ¬ 2 ≤ S.length by omega]; try omega
    · (repeat' ((conv => whnf); (first | (refine IfN.id ?_; first | refine IfN.tt rfl ?_ | refine IfN.ff rfl ?_ | refine IfN.dT (by omega) ?_ | refine IfN.dec (fun _ => ?_) (fun _ => ?_) | fail) | (refine EqN.id ?_; first | refine EqN.remC _ rfl rfl hc ?_ | (refine EqN.addN _ _ (by first | with_reducible rfl | with_reducible exact cst1 | with_reducible exact cst0 | with_reducible exact cst2 | with_reducible exact cst3 | with_reducible exact cst4 | with_reducible exact cst5 | with_reducible exact cst6 | with_reducible exact cst7 | with_reducible exact cst8 | with_reducible exact cst14 | with_reducible exact cst15 | with_reducible exact cst25 | with_reducible exact cst30 | with_reducible exact cst31 | fail) (by first | with_reducible rfl | with_reducible exact cst1 | with_reducible exact cst0 | with_reducible exact cst2 | with_reducible exact cst3 | with_reducible exact cst4 | with_reducible exact cst5 | with_reducible exact cst6 | with_reducible exact cst7 | with_reducible exact cst8 | with_reducible exact cst14 | with_reducible exact cst15 | with_reducible exact cst25 | with_reducible exact cst30 | with_reducible exact cst31 | fail) ?_ ?_; · (repeat' (first | omega | refine And.intro ?_ ?_ | exact bnd_andl (by omega) | exact bnd_andr (by omega) | refine bnd_or ?_ ?_ | refine bnd_or31 ?_ ?_ | refine bnd_xor ?_ ?_ | refine bnd_xor31 ?_ ?_ | refine bnd_shr ?_ | refine bnd_shl ?_ ?_ | refine bnd_mod ?_ | refine bnd_andl ?_ | fail))) | (refine EqN.subN _ _ (by first | with_reducible rfl | with_reducible exact cst1 | with_reducible exact cst0 | with_reducible exact cst2 | with_reducible exact cst3 | with_reducible exact cst4 | with_reducible exact cst5 | with_reducible exact cst6 | with_reducible exact cst7 | with_reducible exact cst8 | with_reducible exact cst14 | with_reducible exact cst15 | with_reducible exact cst25 | with_reducible exact cst30 | with_reducible exact cst31 | fail) (by first | with_reducible rfl | with_reducible exact cst1 | with_reducible exact cst0 | with_reducible exact cst2 | with_reducible exact cst3 | with_reducible exact cst4 | with_reducible exact cst5 | with_reducible exact cst6 | with_reducible exact cst7 | with_reducible exact cst8 | with_reducible exact cst14 | with_reducible exact cst15 | with_reducible exact cst25 | with_reducible exact cst30 | with_reducible exact cst31 | fail) ?_ ?_; · (repeat' (first | omega | refine And.intro ?_ ?_ | exact bnd_andl (by omega) | exact bnd_andr (by omega) | refine bnd_or ?_ ?_ | refine bnd_or31 ?_ ?_ | refine bnd_xor ?_ ?_ | refine bnd_xor31 ?_ ?_ | refine bnd_shr ?_ | refine bnd_shl ?_ ?_ | refine bnd_mod ?_ | refine bnd_andl ?_ | fail))) | refine EqN.remN _ _ (by first | with_reducible rfl | with_reducible exact cst1 | with_reducible exact cst0 | with_reducible exact cst2 | with_reducible exact cst3 | with_reducible exact cst4 | with_reducible exact cst5 | with_reducible exact cst6 | with_reducible exact cst7 | with_reducible exact cst8 | with_reducible exact cst14 | with_reducible exact cst15 | with_reducible exact cst25 | with_reducible exact cst30 | with_reducible exact cst31 | fail) (by first | with_reducible rfl | with_reducible exact cst1 | with_reducible exact cst0 | with_reducible exact cst2 | with_reducible exact cst3 | with_reducible exact cst4 | with_reducible exact cst5 | with_reducible exact cst6 | with_reducible exact cst7 | with_reducible exact cst8 | with_reducible exact cst14 | with_reducible exact cst15 | with_reducible exact cst25 | with_reducible exact cst30 | with_reducible exact cst31 | fail) ?_ | fail) | (refine SideN.mk ?_ ?_; · first | kernel_rfl | omega | exact List.cons_ne_nil _ _ | (simp; done) | (simp; omega) | exact trivial | assumption | fail) | refine NatN.mk _ rfl ?_ | (refine CallD.id ?_; first | refine CallD.det _ (fun _ hq X => VDet.wk (join1_c 12 (gF S (S.length - 1)) _) ⟨Wk.refl _, wk_sx _ _, trivial⟩) ?_ | fail) | refine SegN.nth 0 i rfl (by omega) (fun _ => rfl) ?_ | refine SegN.nth Fm.fa (S.length - 1) (by omega) (by omega) (fun _ => rfl) ?_ | refine SubN.flat (lo := 0) (n := S.length - 1 - 0) (fun _ => rfl) (by omega) ?_ | refine OrN.l ?_ | refine SideN.mk ⟨Nat.le_of_ble_eq_true rfl, by rw [flat_length (sz := 4) (fun _ => rfl)]; simp; done, rfl, by dsimp only; omega, by simp only [maxLen]; omega⟩ ?_ | refine DrawN.mk' [] ?_ | fail))); all_goals (conv => whnf)
      · refine ⟨⟨i + 1, 2, _, _, _, ⟨by omega, by omega⟩, by omega, ⟨⟨_, rfl, Wk.refl _⟩, trivial⟩, ⟨⟨_, rfl, Wk.refl _⟩, ⟨_, rfl, Wk.refl _⟩, trivial⟩, rfl, rfl, ?_, ?_, by omega, rfl, rfl, ⟨_, rfl⟩, by simp [belowRE, below, tr], by simp [belowH, Blk.below, belowL, below], fms_below _ _⟩⟩
        all_goals rw [hS]; simp [stp, gF, Fm.cells, show 1 ≤ S.length by omega]; try omega
      · refine ⟨⟨i + 1, 1, _, _, _, ⟨by omega, by omega⟩, by omega, ⟨⟨_, rfl, Wk.refl _⟩, trivial⟩, ⟨⟨_, rfl, Wk.refl _⟩, ⟨_, rfl, Wk.refl _⟩, trivial⟩, rfl, rfl, ?_, ?_, by omega, rfl, rfl, ⟨_, rfl⟩, by simp [belowRE, below, tr], by simp [belowH, Blk.below, belowL, below], fms_below _ _⟩⟩
        all_goals rw [hS]; simp [stp, gF, Fm.cells, show ¬ 1 ≤ S.length by omega]; try omega
    · (repeat' ((conv => whnf); (first | (refine IfN.id ?_; first | refine IfN.tt rfl ?_ | refine IfN.ff rfl ?_ | refine IfN.dT (by omega) ?_ | refine IfN.dec (fun _ => ?_) (fun _ => ?_) | fail) | (refine EqN.id ?_; first | refine EqN.remC _ rfl rfl hc ?_ | (refine EqN.addN _ _ (by first | with_reducible rfl | with_reducible exact cst1 | with_reducible exact cst0 | with_reducible exact cst2 | with_reducible exact cst3 | with_reducible exact cst4 | with_reducible exact cst5 | with_reducible exact cst6 | with_reducible exact cst7 | with_reducible exact cst8 | with_reducible exact cst14 | with_reducible exact cst15 | with_reducible exact cst25 | with_reducible exact cst30 | with_reducible exact cst31 | fail) (by first | with_reducible rfl | with_reducible exact cst1 | with_reducible exact cst0 | with_reducible exact cst2 | with_reducible exact cst3 | with_reducible exact cst4 | with_reducible exact cst5 | with_reducible exact cst6 | with_reducible exact cst7 | with_reducible exact cst8 | with_reducible exact cst14 | with_reducible exact cst15 | with_reducible exact cst25 | with_reducible exact cst30 | with_reducible exact cst31 | fail) ?_ ?_; · (repeat' (first | omega | refine And.intro ?_ ?_ | exact bnd_andl (by omega) | exact bnd_andr (by omega) | refine bnd_or ?_ ?_ | refine bnd_or31 ?_ ?_ | refine bnd_xor ?_ ?_ | refine bnd_xor31 ?_ ?_ | refine bnd_shr ?_ | refine bnd_shl ?_ ?_ | refine bnd_mod ?_ | refine bnd_andl ?_ | fail))) | (refine EqN.subN _ _ (by first | with_reducible rfl | with_reducible exact cst1 | with_reducible exact cst0 | with_reducible exact cst2 | with_reducible exact cst3 | with_reducible exact cst4 | with_reducible exact cst5 | with_reducible exact cst6 | with_reducible exact cst7 | with_reducible exact cst8 | with_reducible exact cst14 | with_reducible exact cst15 | with_reducible exact cst25 | with_reducible exact cst30 | with_reducible exact cst31 | fail) (by first | with_reducible rfl | with_reducible exact cst1 | with_reducible exact cst0 | with_reducible exact cst2 | with_reducible exact cst3 | with_reducible exact cst4 | with_reducible exact cst5 | with_reducible exact cst6 | with_reducible exact cst7 | with_reducible exact cst8 | with_reducible exact cst14 | with_reducible exact cst15 | with_reducible exact cst25 | with_reducible exact cst30 | with_reducible exact cst31 | fail) ?_ ?_; · (repeat' (first | omega | refine And.intro ?_ ?_ | exact bnd_andl (by omega) | exact bnd_andr (by omega) | refine bnd_or ?_ ?_ | refine bnd_or31 ?_ ?_ | refine bnd_xor ?_ ?_ | refine bnd_xor31 ?_ ?_ | refine bnd_shr ?_ | refine bnd_shl ?_ ?_ | refine bnd_mod ?_ | refine bnd_andl ?_ | fail))) | refine EqN.remN _ _ (by first | with_reducible rfl | with_reducible exact cst1 | with_reducible exact cst0 | with_reducible exact cst2 | with_reducible exact cst3 | with_reducible exact cst4 | with_reducible exact cst5 | with_reducible exact cst6 | with_reducible exact cst7 | with_reducible exact cst8 | with_reducible exact cst14 | with_reducible exact cst15 | with_reducible exact cst25 | with_reducible exact cst30 | with_reducible exact cst31 | fail) (by first | with_reducible rfl | with_reducible exact cst1 | with_reducible exact cst0 | with_reducible exact cst2 | with_reducible exact cst3 | with_reducible exact cst4 | with_reducible exact cst5 | with_reducible exact cst6 | with_reducible exact cst7 | with_reducible exact cst8 | with_reducible exact cst14 | with_reducible exact cst15 | with_reducible exact cst25 | with_reducible exact cst30 | with_reducible exact cst31 | fail) ?_ | fail) | (refine SideN.mk ?_ ?_; · first | kernel_rfl | omega | exact List.cons_ne_nil _ _ | (simp; done) | (simp; omega) | exact trivial | assumption | fail) | refine NatN.mk _ rfl ?_ | (refine CallD.id ?_; first | refine CallD.det _ (fun _ hq X => VDet.wk (join1_c 13 (gF S (S.length - 1)) _) ⟨Wk.refl _, wk_sx _ _, trivial⟩) ?_ | fail) | refine SegN.nth 0 i rfl (by omega) (fun _ => rfl) ?_ | refine SegN.nth Fm.fa (S.length - 1) (by omega) (by omega) (fun _ => rfl) ?_ | refine SubN.flat (lo := 0) (n := S.length - 1 - 0) (fun _ => rfl) (by omega) ?_ | refine OrN.l ?_ | refine SideN.mk ⟨Nat.le_of_ble_eq_true rfl, by rw [flat_length (sz := 4) (fun _ => rfl)]; simp; done, rfl, by dsimp only; omega, by simp only [maxLen]; omega⟩ ?_ | refine DrawN.mk' [] ?_ | fail))); all_goals (conv => whnf)
      · refine ⟨⟨i + 1, 2, _, _, _, ⟨by omega, by omega⟩, by omega, ⟨⟨_, rfl, Wk.refl _⟩, trivial⟩, ⟨⟨_, rfl, Wk.refl _⟩, ⟨_, rfl, Wk.refl _⟩, trivial⟩, rfl, rfl, ?_, ?_, by omega, rfl, rfl, ⟨_, rfl⟩, by simp [belowRE, below, tr], by simp [belowH, Blk.below, belowL, below], fms_below _ _⟩⟩
        all_goals rw [hS]; simp [stp, gF, Fm.cells, show 1 ≤ S.length by omega]; try omega
      · refine ⟨⟨i + 1, 1, _, _, _, ⟨by omega, by omega⟩, by omega, ⟨⟨_, rfl, Wk.refl _⟩, trivial⟩, ⟨⟨_, rfl, Wk.refl _⟩, ⟨_, rfl, Wk.refl _⟩, trivial⟩, rfl, rfl, ?_, ?_, by omega, rfl, rfl, ⟨_, rfl⟩, by simp [belowRE, below, tr], by simp [belowH, Blk.below, belowL, below], fms_below _ _⟩⟩
        all_goals rw [hS]; simp [stp, gF, Fm.cells, show ¬ 1 ≤ S.length by omega]; try omega
    · (repeat' ((conv => whnf); (first | (refine IfN.id ?_; first | refine IfN.tt rfl ?_ | refine IfN.ff rfl ?_ | refine IfN.dT (by omega) ?_ | refine IfN.dec (fun _ => ?_) (fun _ => ?_) | fail) | (refine EqN.id ?_; first | refine EqN.remC _ rfl rfl hc ?_ | (refine EqN.addN _ _ (by first | with_reducible rfl | with_reducible exact cst1 | with_reducible exact cst0 | with_reducible exact cst2 | with_reducible exact cst3 | with_reducible exact cst4 | with_reducible exact cst5 | with_reducible exact cst6 | with_reducible exact cst7 | with_reducible exact cst8 | with_reducible exact cst14 | with_reducible exact cst15 | with_reducible exact cst25 | with_reducible exact cst30 | with_reducible exact cst31 | fail) (by first | with_reducible rfl | with_reducible exact cst1 | with_reducible exact cst0 | with_reducible exact cst2 | with_reducible exact cst3 | with_reducible exact cst4 | with_reducible exact cst5 | with_reducible exact cst6 | with_reducible exact cst7 | with_reducible exact cst8 | with_reducible exact cst14 | with_reducible exact cst15 | with_reducible exact cst25 | with_reducible exact cst30 | with_reducible exact cst31 | fail) ?_ ?_; · (repeat' (first | omega | refine And.intro ?_ ?_ | exact bnd_andl (by omega) | exact bnd_andr (by omega) | refine bnd_or ?_ ?_ | refine bnd_or31 ?_ ?_ | refine bnd_xor ?_ ?_ | refine bnd_xor31 ?_ ?_ | refine bnd_shr ?_ | refine bnd_shl ?_ ?_ | refine bnd_mod ?_ | refine bnd_andl ?_ | fail))) | (refine EqN.subN _ _ (by first | with_reducible rfl | with_reducible exact cst1 | with_reducible exact cst0 | with_reducible exact cst2 | with_reducible exact cst3 | with_reducible exact cst4 | with_reducible exact cst5 | with_reducible exact cst6 | with_reducible exact cst7 | with_reducible exact cst8 | with_reducible exact cst14 | with_reducible exact cst15 | with_reducible exact cst25 | with_reducible exact cst30 | with_reducible exact cst31 | fail) (by first | with_reducible rfl | with_reducible exact cst1 | with_reducible exact cst0 | with_reducible exact cst2 | with_reducible exact cst3 | with_reducible exact cst4 | with_reducible exact cst5 | with_reducible exact cst6 | with_reducible exact cst7 | with_reducible exact cst8 | with_reducible exact cst14 | with_reducible exact cst15 | with_reducible exact cst25 | with_reducible exact cst30 | with_reducible exact cst31 | fail) ?_ ?_; · (repeat' (first | omega | refine And.intro ?_ ?_ | exact bnd_andl (by omega) | exact bnd_andr (by omega) | refine bnd_or ?_ ?_ | refine bnd_or31 ?_ ?_ | refine bnd_xor ?_ ?_ | refine bnd_xor31 ?_ ?_ | refine bnd_shr ?_ | refine bnd_shl ?_ ?_ | refine bnd_mod ?_ | refine bnd_andl ?_ | fail))) | fail) | (refine SideN.mk ?_ ?_; · first | kernel_rfl | omega | exact List.cons_ne_nil _ _ | (simp; done) | (simp; omega) | exact trivial | assumption | fail) | refine NatN.mk _ rfl ?_ | (refine CallD.id ?_; first | refine CallD.det _ (fun _ hq X => VDet.wk (join2_c 14 (gF S (S.length - 2)) (gF S (S.length - 1)) _) ⟨Wk.refl _, wk_sx _ _, trivial⟩) ?_ | fail) | refine SegN.nth 0 i rfl (by omega) (fun _ => rfl) ?_ | refine SegN.nth Fm.fa (S.length - 2) (by omega) (by omega) (fun _ => rfl) ?_ | refine SegN.nth Fm.fa (S.length - 1) (by omega) (by omega) (fun _ => rfl) ?_ | refine SubN.flat (lo := 0) (n := S.length - 2 - 0) (fun _ => rfl) (by omega) ?_ | refine OrN.l ?_ | refine SideN.mk ⟨Nat.le_of_ble_eq_true rfl, by rw [flat_length (sz := 4) (fun _ => rfl)]; simp; done, rfl, by dsimp only; omega, by simp only [maxLen]; omega⟩ ?_ | refine DrawN.mk' [] ?_ | fail))); all_goals (conv => whnf)
      · refine ⟨⟨i + 1, 2, _, _, _, ⟨by omega, by omega⟩, by omega, ⟨⟨_, rfl, Wk.refl _⟩, trivial⟩, ⟨⟨_, rfl, Wk.refl _⟩, ⟨_, rfl, Wk.refl _⟩, trivial⟩, rfl, rfl, ?_, ?_, by omega, rfl, rfl, ⟨_, rfl⟩, by simp [belowRE, below, tr], by simp [belowH, Blk.below, belowL, below], fms_below _ _⟩⟩
        all_goals rw [hS]; simp [stp, gF, Fm.cells, show 2 ≤ S.length by omega]; try omega
      · refine ⟨⟨i + 1, 1, _, _, _, ⟨by omega, by omega⟩, by omega, ⟨⟨_, rfl, Wk.refl _⟩, trivial⟩, ⟨⟨_, rfl, Wk.refl _⟩, ⟨_, rfl, Wk.refl _⟩, trivial⟩, rfl, rfl, ?_, ?_, by omega, rfl, rfl, ⟨_, rfl⟩, by simp [belowRE, below, tr], by simp [belowH, Blk.below, belowL, below], fms_below _ _⟩⟩
        all_goals rw [hS]; simp [stp, gF, Fm.cells, show ¬ 2 ≤ S.length by omega]; try omega
  · have hfin : bst (l.take i) = bst (l.take 20) := by
      by_cases h : l.length ≤ 20
      · rw [List.take_of_length_le h, List.take_of_length_le (show l.length ≤ i by omega)]
      · rw [show i = 20 by omega]
    unfold bltF
    rw [← hfin]
    generalize bst (l.take i) = S at hn ⊢
    by_cases hS : S.length = 0
    · have hfe : finF S = .fa := by unfold finF; rw [if_pos hS]
      rw [hfe]
      (repeat' ((conv => whnf); (first | (refine IfN.id ?_; first | refine IfN.dT (by omega) ?_ | refine IfN.dF (by omega) ?_ | refine IfN.dec (fun _ => ?_) (fun _ => ?_) | fail) | (refine CallN.id ?_; first | refine CallN.det _ (VDet.wk (join0_c _) ⟨Wk.refl _, wk_nils, trivial⟩) ?_ | fail) | refine DrawN.mk' [] ?_ | fail))); all_goals (conv => whnf)
      all_goals exact EndN.det (by simp [Fm.cells, below, belowL, Fm.sc_below]) (Wk.refl _)
    · have hfe : finF S = orN S (S.length - 1) := by unfold finF; rw [if_neg hS]
      rw [hfe]
      (repeat' ((conv => whnf); (first | (refine IfN.id ?_; first | refine IfN.dF (by omega) ?_ | refine IfN.dec (fun _ => ?_) (fun _ => ?_) | fail) | (refine SideN.mk ?_ ?_; · first | kernel_rfl | omega | exact List.cons_ne_nil _ _ | (simp; done) | (simp; omega) | exact trivial | assumption | fail) | refine SegN.nth Fm.fa 0 rfl (by omega) (fun _ => rfl) ?_ | refine DrawN.mk' [] ?_ | fail))); all_goals (conv => whnf)
      all_goals
        refine loop_R Tryz.E0 Tryz.mx (σ := Nat) (fun j => j + 1 ≤ S.length) (fun j => S.length - j) (fun j => [(8, .v (.int .i64 (j + 1 : Nat)))]) (fun j => [.box 50 [.int .u8 0, .str .empty, .nils, .nils], .tok 50 4 (S.flatMap Fm.cells).length, .box 50 [.int .u8 (orN S j).op, .str (orN S j).nmB, .sl none 0 [], .sl none (orN S j).sn (orN S j).sc]]) _ 0 rfl hcl [2, 3, 7] rfl (by omega) ⟨⟨_, rfl, Wk.refl _⟩, trivial⟩ rfl (fun _ _ => rfl) ?_
        intro j hj
        (repeat' ((conv => whnf); (first | (refine IfN.id ?_; first | refine IfN.dec (fun _ => ?_) (fun _ => ?_) | fail) | (refine EqN.id ?_; first | (refine EqN.addN _ _ (by first | with_reducible rfl | with_reducible exact cst1 | with_reducible exact cst0 | with_reducible exact cst2 | with_reducible exact cst3 | with_reducible exact cst4 | with_reducible exact cst5 | with_reducible exact cst6 | with_reducible exact cst7 | with_reducible exact cst8 | with_reducible exact cst14 | with_reducible exact cst15 | with_reducible exact cst25 | with_reducible exact cst30 | with_reducible exact cst31 | fail) (by first | with_reducible rfl | with_reducible exact cst1 | with_reducible exact cst0 | with_reducible exact cst2 | with_reducible exact cst3 | with_reducible exact cst4 | with_reducible exact cst5 | with_reducible exact cst6 | with_reducible exact cst7 | with_reducible exact cst8 | with_reducible exact cst14 | with_reducible exact cst15 | with_reducible exact cst25 | with_reducible exact cst30 | with_reducible exact cst31 | fail) ?_ ?_; · (repeat' (first | omega | refine And.intro ?_ ?_ | exact bnd_andl (by omega) | exact bnd_andr (by omega) | refine bnd_or ?_ ?_ | refine bnd_or31 ?_ ?_ | refine bnd_xor ?_ ?_ | refine bnd_xor31 ?_ ?_ | refine bnd_shr ?_ | refine bnd_shl ?_ ?_ | refine bnd_mod ?_ | refine bnd_andl ?_ | fail))) | fail) | (refine SideN.mk ?_ ?_; · first | kernel_rfl | omega | exact List.cons_ne_nil _ _ | (simp; done) | (simp; omega) | exact trivial | assumption | fail) | (refine CallD.id ?_; first | refine CallD.det _ (fun _ hq X => VDet.wk (join2_c 5 (orN S j) (gF S (j + 1)) _) ⟨Wk.refl _, wk_sx _ _, trivial⟩) ?_ | fail) | refine SegN.nth Fm.fa (j + 1) rfl (by omega) (fun _ => rfl) ?_ | refine DrawN.mk' [] ?_ | fail))); all_goals (conv => whnf)
        · (refine ⟨⟨j + 1, by omega, by omega, ?_, .inl ⟨rfl, rfl⟩, rfl, _, rfl, ?_⟩⟩; rotate_left 1; (first | exact .inl rfl | exact .inr ⟨by simp [belowRE, below, belowL, tr, encB_below, fms_below, Fm.sc_below], by simp [belowH, Blk.below, belowL, below, encB_below, fms_below, Fm.sc_below]⟩ | fail); (repeat' (first | exact trivial | refine ⟨⟨_, rfl, ?_⟩, ?_⟩ | fail)); all_goals try (first | exact Wk.refl _ | exact Wk.of_eq (congrArg (AV.int _) (by omega)) | fail))
        · have hje : S.length - 1 = j := by omega
          rw [hje]
          exact EndN.det (by simp [Fm.cells, below, belowL, Fm.sc_below]) (Wk.refl _)
end Go.Proofs.YtjflngchbeegcaaGreatDoor
/-! text K14z -/
namespace Go.Proofs.YtjflngchbeegcaaGreatDoor
open Go.Vsi

/-! ### what Built makes is a temporal formula of P, Q and R, and small -/
def Fm.pqr : Fm → Prop
  | .at c => c = 80 ∨ c = 81 ∨ c = 82
  | .fa => True
  | .f1 _ a => a.pqr
  | .f2 _ a b => a.pqr ∧ b.pqr
structure Fm.Good (f : Fm) : Prop where
  ok : f.Ok
  temp : f.Temp
  pqr : f.pqr
def sumN : List Fm → Nat
  | [] => 0
  | f :: l => f.nodes + sumN l
theorem sumN_append : ∀ a b : List Fm, sumN (a ++ b) = sumN a + sumN b
  | [], b => by simp [sumN]
  | f :: a, b => by simp only [List.cons_append, sumN, sumN_append a b]; omega
theorem last1 (S : List Fm) (h : 1 ≤ S.length) : S.take (S.length - 1) ++ [gF S (S.length - 1)] = S := by
  have := List.take_add_one (l := S) (i := S.length - 1)
  rw [show S.length - 1 + 1 = S.length by omega, List.take_length] at this
  rw [show ([gF S (S.length - 1)] : List Fm) = S[S.length - 1]?.toList by simp [gF, List.getD, show S.length - 1 < S.length by omega]]
  exact this.symm
theorem last2 (S : List Fm) (h : 2 ≤ S.length) : S.take (S.length - 2) ++ [gF S (S.length - 2), gF S (S.length - 1)] = S := by
  have h1 := last1 S (by omega)
  have h2 := List.take_add_one (l := S) (i := S.length - 2)
  rw [show S.length - 2 + 1 = S.length - 1 by omega] at h2
  rw [show ([gF S (S.length - 2), gF S (S.length - 1)] : List Fm) = S[S.length - 2]?.toList ++ [gF S (S.length - 1)] by simp [gF, List.getD, show S.length - 2 < S.length by omega], ← List.append_assoc, ← h2]
  exact h1
theorem gF_mem (S : List Fm) (i : Nat) (h : i < S.length) : gF S i ∈ S := by
  rw [show gF S i = S[i] by simp [gF, List.getD, h]]; exact List.getElem_mem _
structure StOk (S : List Fm) (m : Nat) : Prop where
  all : ∀ f ∈ S, f.Good
  sum : sumN S ≤ m
theorem StOk.g1 {S : List Fm} {m : Nat} (h : StOk S m) (h1 : 1 ≤ S.length) : (∀ f ∈ S.take (S.length - 1), f.Good) ∧ (gF S (S.length - 1)).Good ∧ sumN (S.take (S.length - 1)) + (gF S (S.length - 1)).nodes ≤ m := by
  have e := last1 S h1
  refine ⟨fun f hf => h.all f (List.mem_of_mem_take hf), h.all _ (gF_mem _ _ (by omega)), ?_⟩
  have := h.sum
  rw [← e, sumN_append] at this
  simpa [sumN, e] using this
theorem StOk.g2 {S : List Fm} {m : Nat} (h : StOk S m) (h1 : 2 ≤ S.length) : (∀ f ∈ S.take (S.length - 2), f.Good) ∧ (gF S (S.length - 2)).Good ∧ (gF S (S.length - 1)).Good ∧ sumN (S.take (S.length - 2)) + (gF S (S.length - 2)).nodes + (gF S (S.length - 1)).nodes ≤ m := by
  have e := last2 S h1
  have q1 : gF S (S.length - 2) ∈ S := by rw [show gF S (S.length - 2) = S[S.length - 2] by simp [gF, List.getD, show S.length - 2 < S.length by omega]]; exact List.getElem_mem _
  have q2 : gF S (S.length - 1) ∈ S := by rw [show gF S (S.length - 1) = S[S.length - 1] by simp [gF, List.getD, show S.length - 1 < S.length by omega]]; exact List.getElem_mem _
  refine ⟨fun f hf => h.all f (List.mem_of_mem_take hf), h.all _ q1, h.all _ q2, ?_⟩
  have e2 : sumN S = sumN (S.take (S.length - 2)) + sumN [gF S (S.length - 2), gF S (S.length - 1)] := by rw [← sumN_append, e]
  have := h.sum
  simp only [sumN] at e2
  omega
theorem stok_snoc {S : List Fm} {f : Fm} {m : Nat} (h : ∀ g ∈ S, g.Good) (hf : f.Good) (hs : sumN S + f.nodes ≤ m) : StOk (S ++ [f]) m :=
  ⟨fun g hg => by
    rcases List.mem_append.1 hg with hg | hg
    · exact h g hg
    · simp only [List.mem_singleton] at hg; exact hg ▸ hf, by rw [sumN_append]; simpa [sumN] using hs⟩
theorem good_at (c : UInt8) (h : c = 80 ∨ c = 81 ∨ c = 82) : (Fm.at c).Good := ⟨by
  rcases h with rfl | rfl | rfl
  · exact (⟨by decide, by decide⟩ : cap 80)
  · exact (⟨by decide, by decide⟩ : cap 81)
  · exact (⟨by decide, by decide⟩ : cap 82), trivial, h⟩
theorem good_fa : Fm.fa.Good := ⟨trivial, trivial, trivial⟩
theorem good_1 {a : Fm} (ha : a.Good) (k : Nat) (hk : k = 3 ∨ k = 12 ∨ k = 13) : (Fm.f1 k a).Good := ⟨⟨by unfold is1; omega, ha.ok⟩, ⟨hk, ha.temp⟩, ha.pqr⟩
theorem good_2 {a b : Fm} (ha : a.Good) (hb : b.Good) (k : Nat) (hk : k = 4 ∨ k = 5 ∨ k = 6 ∨ k = 7 ∨ k = 14) : (Fm.f2 k a b).Good := ⟨⟨hk, ha.ok, hb.ok⟩, ⟨hk, ha.temp, hb.temp⟩, ⟨ha.pqr, hb.pqr⟩⟩
theorem StOk.mono {S : List Fm} {m n : Nat} (h : StOk S m) (hmn : m ≤ n) : StOk S n := ⟨h.all, Nat.le_trans h.sum hmn⟩
theorem stp_ok {S : List Fm} {m : Nat} (h : StOk S m) (b : Nat) : StOk (stp S b) (m + 1) := by
  have hs := h.sum
  have one : ∀ k, (k = 3 ∨ k = 12 ∨ k = 13) → 1 ≤ S.length → StOk (S.take (S.length - 1) ++ [.f1 k (gF S (S.length - 1))]) (m + 1) := fun k hk h1 => by
    obtain ⟨q1, q2, q3⟩ := h.g1 h1
    exact stok_snoc q1 (good_1 q2 k hk) (by simp only [Fm.nodes]; omega)
  have two : ∀ k, (k = 4 ∨ k = 5 ∨ k = 6 ∨ k = 7 ∨ k = 14) → 2 ≤ S.length → StOk (S.take (S.length - 2) ++ [.f2 k (gF S (S.length - 2)) (gF S (S.length - 1))]) (m + 1) := fun k hk h1 => by
    obtain ⟨q1, q2, q3, q4⟩ := h.g2 h1
    exact stok_snoc q1 (good_2 q2 q3 k hk) (by simp only [Fm.nodes]; omega)
  unfold stp
  split
  · exact stok_snoc h.all (good_at 80 (.inl rfl)) (by simp only [Fm.nodes]; omega)
  · exact stok_snoc h.all (good_at 81 (.inr (.inl rfl))) (by simp only [Fm.nodes]; omega)
  · exact stok_snoc h.all (good_at 82 (.inr (.inr rfl))) (by simp only [Fm.nodes]; omega)
  · exact stok_snoc h.all good_fa (by simp only [Fm.nodes]; omega)
  all_goals try split
  all_goals first
    | exact one _ (by omega) (by assumption)
    | exact two _ (by omega) (by assumption)
    | exact h.mono (by omega)
theorem bst_ok (l : List Nat) : ∀ k, StOk (bst (l.take k)) k
  | 0 => ⟨fun f hf => by simp [bst] at hf, by simp [bst, sumN]⟩
  | k + 1 => by
    by_cases h : k < l.length
    · rw [bst_succ l k h]; exact stp_ok (bst_ok l k) _
    · have := bst_ok l k
      rw [List.take_of_length_le (by omega)] at this ⊢
      exact this.mono (by omega)
theorem sum_take (S : List Fm) (i : Nat) (h : i < S.length) : sumN (S.take (i + 1)) = sumN (S.take i) + (gF S i).nodes := by
  rw [List.take_add_one, sumN_append, show S[i]?.toList = [gF S i] by simp [gF, List.getD, h]]
  simp [sumN]
theorem sum_le (S : List Fm) (i : Nat) : sumN (S.take i) ≤ sumN S := by
  have := sumN_append (S.take i) (S.drop i)
  rw [List.take_append_drop] at this
  omega
theorem orN_ok {S : List Fm} {m : Nat} (h : StOk S m) : ∀ j, j < S.length → (orN S j).Good ∧ (orN S j).nodes ≤ sumN (S.take (j + 1)) + j
  | 0, hj => ⟨h.all _ (gF_mem S 0 hj), by rw [sum_take S 0 hj]; simp [orN, sumN]⟩
  | j + 1, hj => by
    obtain ⟨i1, i2⟩ := orN_ok h j (by omega)
    refine ⟨good_2 i1 (h.all _ (gF_mem S (j + 1) hj)) 5 (by omega), ?_⟩
    rw [sum_take S (j + 1) hj]
    simp only [orN, Fm.nodes]
    omega
theorem blt_ok (l : List Nat) : (bltF l).Good ∧ (bltF l).nodes ≤ 39 := by
  have h := bst_ok l 20
  have hl := bst_len l 20
  unfold bltF finF
  split
  · exact ⟨good_fa, by simp [Fm.nodes]⟩
  · rename_i hn
    obtain ⟨q1, q2⟩ := orN_ok h _ (show (bst (l.take 20)).length - 1 < (bst (l.take 20)).length by omega)
    refine ⟨q1, ?_⟩
    have := sum_le (bst (l.take 20)) ((bst (l.take 20)).length - 1 + 1)
    have := h.sum
    omega
/-- traces with the Facts P, Q and R -/
theorem miss_pqr (n lp a b c : Nat) : ∀ f : Fm, f.pqr → miss ⟨n, lp, [(80, a), (81, b), (82, c)]⟩ f = false
  | .at c', h => by
    simp only [Fm.pqr] at h
    rcases h with rfl | rfl | rfl <;> rfl
  | .fa, _ => rfl
  | .f1 _ x, h => miss_pqr n lp a b c x h
  | .f2 _ x y, h => by
    simp only [miss, miss_pqr n lp a b c x h.1, miss_pqr n lp a b c y h.2, Bool.or_self]
end Go.Proofs.YtjflngchbeegcaaGreatDoor
/-! text PA13z -/
namespace Go.Proofs.YtjflngchbeegcaaGreatDoor
open Go.Vsi

/-! ### formulas without times, and what they are worth -/
def putF : Fm → Fm
  | .at c => .at c
  | .fa => .fa
  | .f1 k a => if k = 12 ∨ k = 13 then putF a else .f1 k (putF a)
  | .f2 k a b => if k = 14 then putF b else .f2 k (putF a) (putF b)
def Fm.Prp : Fm → Prop
  | .at _ => True
  | .fa => True
  | .f1 k a => k = 3 ∧ a.Prp
  | .f2 k a b => (k = 4 ∨ k = 5 ∨ k = 6 ∨ k = 7) ∧ a.Prp ∧ b.Prp
theorem put_prp : ∀ f : Fm, f.Temp → (putF f).Prp
  | .at _, _ => trivial
  | .fa, _ => trivial
  | .f1 k a, h => by
    have h1 := put_prp a h.2
    unfold putF
    split
    · exact h1
    · exact ⟨h.1.resolve_right (by assumption), h1⟩
  | .f2 k a b, h => by
    have h1 := put_prp a h.2.1
    have h2 := put_prp b h.2.2
    unfold putF
    split
    · exact h2
    · refine ⟨?_, h1, h2⟩
      have := h.1
      unfold is2 at this
      omega
theorem put_good : ∀ f : Fm, f.Good → (putF f).Good ∧ (putF f).nodes ≤ f.nodes
  | .at _, h => ⟨h, Nat.le_refl _⟩
  | .fa, h => ⟨h, Nat.le_refl _⟩
  | .f1 k a, h => by
    obtain ⟨h1, h2⟩ := put_good a ⟨h.ok.2, h.temp.2, h.pqr⟩
    unfold putF
    split
    · exact ⟨h1, by simp only [Fm.nodes]; omega⟩
    · exact ⟨⟨⟨h.ok.1, h1.ok⟩, ⟨h.temp.1, h1.temp⟩, h1.pqr⟩, by simp only [Fm.nodes]; omega⟩
  | .f2 k a b, h => by
    obtain ⟨h1, h2⟩ := put_good a ⟨h.ok.2.1, h.temp.2.1, h.pqr.1⟩
    obtain ⟨h3, h4⟩ := put_good b ⟨h.ok.2.2, h.temp.2.2, h.pqr.2⟩
    unfold putF
    split
    · exact ⟨h3, by simp only [Fm.nodes]; omega⟩
    · exact ⟨⟨⟨h.ok.1, h1.ok, h3.ok⟩, ⟨h.temp.1, h1.temp, h3.temp⟩, ⟨h1.pqr, h3.pqr⟩⟩, by simp only [Fm.nodes]; omega⟩
def evB (v : UInt8 → Bool) : Fm → Bool
  | .at c => v c
  | .fa => false
  | .f1 _ a => !evB v a
  | .f2 k a b => if k = 4 then evB v a && evB v b else if k = 5 then evB v a || evB v b else if k = 6 then !evB v a || evB v b else evB v a == evB v b
theorem ev_now (t : Tr) (hl : t.lp < t.n) (x : Nat) : ∀ f : Fm, f.Prp → tm t.n t.lp (evT t f) x = evB (fun c => tm t.n t.lp ((fnd c t.fs).getD 0) x) f
  | .at c, _ => rfl
  | .fa, _ => tm_0 x
  | .f1 k a, h => by
    have := ev_now t hl x a h.2
    unfold evT evB
    rw [if_pos h.1, tm_nt hl, this]
  | .f2 k a b, h => by
    have h1 := ev_now t hl x a h.2.1
    have h2 := ev_now t hl x b h.2.2
    unfold evT evB
    rcases h.1 with rfl | rfl | rfl | rfl
    · rw [if_pos rfl, if_pos rfl, tm_and, h1, h2]
    · rw [if_neg (by decide), if_pos rfl, if_neg (by decide), if_pos rfl, tm_or, h1, h2]
    · rw [if_neg (by decide), if_neg (by decide), if_pos rfl, if_neg (by decide), if_neg (by decide), if_pos rfl, tm_or, tm_nt hl, h1, h2]
    · rw [if_neg (by decide), if_neg (by decide), if_neg (by decide), if_pos rfl, if_neg (by decide), if_neg (by decide), if_neg (by decide), tm_nt hl, tm_xor, h1, h2]
      cases evB (fun c => tm t.n t.lp ((fnd c t.fs).getD 0) x) a <;> cases evB (fun c => tm t.n t.lp ((fnd c t.fs).getD 0) x) b <;> rfl
theorem pos1 (x : Nat) : posN 1 0 x = 0 := by
  unfold posN
  split
  · omega
  · rw [Nat.sub_zero, Nat.mod_one]
theorem tm1 (a x y : Nat) : tm 1 0 a x = tm 1 0 a y := by
  unfold tm
  rw [pos1, pos1]
theorem evT_f1 (n lp : Nat) (fs : List (UInt8 × Nat)) (k : Nat) (a : Fm) : evT ⟨n, lp, fs⟩ (.f1 k a) = if k = 3 then nt (every n) (evT ⟨n, lp, fs⟩ a) else if k = 12 then befN n lp (evT ⟨n, lp, fs⟩ a) else if k = 13 then alN n lp (evT ⟨n, lp, fs⟩ a) else 0 := rfl
theorem evT_f2 (n lp : Nat) (fs : List (UInt8 × Nat)) (k : Nat) (a b : Fm) : evT ⟨n, lp, fs⟩ (.f2 k a b) = if k = 4 then evT ⟨n, lp, fs⟩ a &&& evT ⟨n, lp, fs⟩ b else if k = 5 then evT ⟨n, lp, fs⟩ a ||| evT ⟨n, lp, fs⟩ b else if k = 6 then nt (every n) (evT ⟨n, lp, fs⟩ a) ||| evT ⟨n, lp, fs⟩ b else if k = 7 then nt (every n) (evT ⟨n, lp, fs⟩ a ^^^ evT ⟨n, lp, fs⟩ b) else if k = 14 then unN n lp (evT ⟨n, lp, fs⟩ a) (evT ⟨n, lp, fs⟩ b) else 0 := rfl
/-- nothing changes -/
theorem ev_still (fs : List (UInt8 × Nat)) (ht : Tr.Ok ⟨1, 0, fs⟩) (x : Nat) : ∀ f : Fm, f.Temp → tm 1 0 (evT ⟨1, 0, fs⟩ f) x = tm 1 0 (evT ⟨1, 0, fs⟩ (putF f)) x
  | .at c, _ => rfl
  | .fa, _ => rfl
  | .f1 k a, h => by
    have h1 := ev_still fs ht x a h.2
    have ha : evT ⟨1, 0, fs⟩ a < 2 ^ 1 := evT_lt ht a
    unfold putF
    split
    · rename_i hk
      rw [← h1]
      rw [evT_f1]
      rcases hk with rfl | rfl
      · rw [if_neg (by decide), if_pos rfl, tm_bef (by decide) (by decide)]
        exact tm1 _ _ _
      · rw [if_neg (by decide), if_neg (by decide), if_pos rfl]
        apply Bool.eq_iff_iff.2
        rw [tm_al (by decide) (by decide) ha]
        exact ⟨fun h => h 0, fun h j => (tm1 _ _ _).trans h⟩
    · rename_i hk
      have h3 : k = 3 := h.1.resolve_right hk
      subst h3
      rw [evT_f1]
      rw [evT_f1, if_pos rfl, if_pos rfl, tm_nt (by decide), tm_nt (by decide), h1]
  | .f2 k a b, h => by
    have h1 := ev_still fs ht x a h.2.1
    have h2 := ev_still fs ht x b h.2.2
    have ha : evT ⟨1, 0, fs⟩ a < 2 ^ 1 := evT_lt ht a
    have hb : evT ⟨1, 0, fs⟩ b < 2 ^ 1 := evT_lt ht b
    unfold putF
    split
    · rename_i hk
      subst hk
      rw [← h2]
      rw [evT_f2]
      rw [if_neg (by decide), if_neg (by decide), if_neg (by decide), if_neg (by decide), if_pos rfl]
      apply Bool.eq_iff_iff.2
      rw [tm_un (by decide) (by decide) ha hb]
      exact ⟨fun ⟨j, hj, _⟩ => (tm1 _ _ _).trans hj, fun h => ⟨0, h, fun i hi => absurd hi (Nat.not_lt_zero i)⟩⟩
    · rename_i hk
      have hk4 : k = 4 ∨ k = 5 ∨ k = 6 ∨ k = 7 := by have := h.1; unfold is2 at this; omega
      rw [evT_f2, evT_f2]
      rcases hk4 with rfl | rfl | rfl | rfl
      · rw [if_pos rfl, if_pos rfl, tm_and, tm_and, h1, h2]
      · rw [if_neg (by decide), if_pos rfl, if_neg (by decide), if_pos rfl, tm_or, tm_or, h1, h2]
      · rw [if_neg (by decide), if_neg (by decide), if_pos rfl, if_neg (by decide), if_neg (by decide), if_pos rfl, tm_or, tm_or, tm_nt (by decide), tm_nt (by decide), h1, h2]
      · rw [if_neg (by decide), if_neg (by decide), if_neg (by decide), if_pos rfl, if_neg (by decide), if_neg (by decide), if_neg (by decide), if_pos rfl, tm_nt (by decide), tm_nt (by decide), tm_xor, tm_xor, h1, h2]
end Go.Proofs.YtjflngchbeegcaaGreatDoor
/-! text QA13z -/
namespace Go.Proofs.YtjflngchbeegcaaGreatDoor
open Go.Vsi
set_option maxHeartbeats 1000000
attribute [local irreducible] VW VCall VO bits

/-! ### TraceProps: put -/
def PutP (f : Fm) : Prop := ∀ (H : Heap) (p : Nat), H[p]? = some (.box 68 [.clo (.func 31) [] [.ptr p 0]]) → VDet Tryz.prog 31 [.agg f.cells, .ptr p 0] H (.agg (putF f).cells)
theorem put_at (c : UInt8) : PutP (.at c) := by
  intro H p hp
  have e : putF (.at c) = .at c := by unfold putF; rfl
  rw [e]
  unfold Fm.cells
  simp only [Fm.op, Fm.nmB, Fm.sn, Fm.sc]
  refine fn_det Tryz.E0 Tryz.mx Tryz.func31 (by kernel_rfl) rfl (Nat.le_of_ble_eq_true rfl) rfl fun hcl hbl => ?_
  (repeat' ((conv => whnf); (first | (refine IfN.id ?_; first | refine IfN.ff rfl ?_ | fail) | refine DrawN.mk' [] ?_ | fail))); all_goals (conv => whnf)
  refine LoopN.rounds Tryz.E0 Tryz.mx 1 rfl ?_
  (repeat' ((conv => whnf); (first | (refine IfN.id ?_; first | refine IfN.ff rfl ?_ | fail) | refine DrawN.mk' [] ?_ | fail))); all_goals (conv => whnf)
  exact EndN.det (by simp [below, belowL]) (wk_agg ⟨Wk.refl _, Wk.refl _, wk_nils, wk_nils, trivial⟩)
theorem put_fa : PutP .fa := by
  intro H p hp
  have e : putF .fa = .fa := by unfold putF; rfl
  rw [e]
  unfold Fm.cells
  simp only [Fm.op, Fm.nmB, Fm.sn, Fm.sc]
  refine fn_det Tryz.E0 Tryz.mx Tryz.func31 (by kernel_rfl) rfl (Nat.le_of_ble_eq_true rfl) rfl fun hcl hbl => ?_
  (repeat' ((conv => whnf); (first | (refine IfN.id ?_; first | refine IfN.ff rfl ?_ | fail) | refine DrawN.mk' [] ?_ | fail))); all_goals (conv => whnf)
  refine LoopN.rounds Tryz.E0 Tryz.mx 1 rfl ?_
  (repeat' ((conv => whnf); (first | (refine IfN.id ?_; first | refine IfN.ff rfl ?_ | fail) | refine DrawN.mk' [] ?_ | fail))); all_goals (conv => whnf)
  exact EndN.det (by simp [below, belowL]) (wk_agg ⟨Wk.refl _, Wk.refl _, wk_nils, wk_nils, trivial⟩)
theorem put_f1 (k : Nat) (hk : k = 3 ∨ k = 12 ∨ k = 13) (a : Fm) (ih : PutP a) : PutP (.f1 k a) := by
  intro H p hp
  have q := fun X Y => ih ((H ++ X) ++ Y) p (at_base' (at_base' hp))
  have hb : ∀ m, belowL m (putF a).cells := fun m => by simp [Fm.cells, below, belowL, Fm.sc_below]
  have hc : ∃ o n s c, (putF a).cells = [.int .u8 (o : Nat), .str n, .sl none 0 [], .sl none s c] := ⟨_, _, _, _, rfl⟩
  rw [show (Fm.f1 k a).cells = [.int .u8 (k : Nat), .str .empty, .sl none 0 [], .sl none 1 [.int .u8 a.op, .str a.nmB, .sl none 0 [], .sl none a.sn a.sc]] from rfl]
  unfold putF
  unfold Fm.cells at q
  generalize a.op = ao at q ⊢
  generalize a.nmB = an at q ⊢
  generalize a.sn = asn at q ⊢
  generalize a.sc = asc at q ⊢
  rcases hk with rfl | hk
  · rw [if_neg (by decide)]
    rw [show (Fm.f1 3 (putF a)).cells = [.int .u8 (3 : Nat), .str .empty, .sl none 0 [], .sl none 1 (putF a).cells] from rfl]
    change ∀ X Y, VDet Tryz.prog 31 _ ((H ++ X) ++ Y) (.agg (putF a).cells) at q
    obtain ⟨o, n, s, c, hc⟩ := hc
    rw [hc] at q hb ⊢
    refine fn_det Tryz.E0 Tryz.mx Tryz.func31 (by kernel_rfl) rfl (Nat.le_of_ble_eq_true rfl) rfl fun hcl hbl => ?_
    (repeat' ((conv => whnf); (first | (refine IfN.id ?_; first | refine IfN.ff rfl ?_ | fail) | refine DrawN.mk' [] ?_ | fail))); all_goals (conv => whnf)
    refine LoopN.tokB 2 3 50 4 rfl rfl rfl rfl rfl rfl ?_
    refine LoopN.rounds Tryz.E0 Tryz.mx 2 rfl ?_
    (repeat' ((conv => whnf); (first | (refine IfN.id ?_; first | refine IfN.tt rfl ?_ | refine IfN.ff rfl ?_ | fail) | (refine EqN.id ?_; first | (refine EqN.addN _ _ (by first | with_reducible rfl | with_reducible exact cst1 | with_reducible exact cst0 | with_reducible exact cst2 | with_reducible exact cst3 | with_reducible exact cst4 | with_reducible exact cst5 | with_reducible exact cst6 | with_reducible exact cst7 | with_reducible exact cst8 | with_reducible exact cst14 | with_reducible exact cst15 | with_reducible exact cst25 | with_reducible exact cst30 | with_reducible exact cst31 | fail) (by first | with_reducible rfl | with_reducible exact cst1 | with_reducible exact cst0 | with_reducible exact cst2 | with_reducible exact cst3 | with_reducible exact cst4 | with_reducible exact cst5 | with_reducible exact cst6 | with_reducible exact cst7 | with_reducible exact cst8 | with_reducible exact cst14 | with_reducible exact cst15 | with_reducible exact cst25 | with_reducible exact cst30 | with_reducible exact cst31 | fail) ?_ ?_; · (repeat' (first | omega | refine And.intro ?_ ?_ | exact bnd_andl (by omega) | exact bnd_andr (by omega) | refine bnd_or ?_ ?_ | refine bnd_or31 ?_ ?_ | refine bnd_xor ?_ ?_ | refine bnd_xor31 ?_ ?_ | refine bnd_shr ?_ | refine bnd_shl ?_ ?_ | refine bnd_mod ?_ | refine bnd_andl ?_ | fail))) | fail) | (refine SideN.mk ?_ ?_; · first | kernel_rfl | omega | exact List.cons_ne_nil _ _ | (simp; done) | (simp; omega) | exact trivial | assumption | fail) | (refine CallD.id ?_; first | refine CallD.det _ (fun _ hq X => q _ _) ?_ | fail) | refine SideN.mk ⟨rfl, rfl, rfl, by simp, by simp [maxLen]⟩ ?_ | (refine PtrN.id ?_; first | refine PtrN.loc _ rfl ?_ | refine PtrN.base _ (by (repeat' (first | assumption | exact at_loc' _ rfl | exact at_loc0 rfl | refine at_set (B' := ?_) ?_ | refine at_base' ?_ | fail))) ?_ | fail) | refine SegN.mk _ (seg_rfl rfl) ?_ | refine DrawN.mk' [] ?_ | fail))); all_goals (conv => whnf)
    all_goals exact EndN.det (by simpa [below, belowL] using hb H.length) (wk_agg ⟨Wk.refl _, Wk.refl _, wk_nils, wk_sl _ _ _, trivial⟩)
  · rw [if_pos hk]
    change ∀ X Y, VDet Tryz.prog 31 _ ((H ++ X) ++ Y) (.agg (putF a).cells) at q
    obtain ⟨o, n, s, c, hc⟩ := hc
    rw [hc] at q hb ⊢
    rcases hk with rfl | rfl
    · refine fn_det Tryz.E0 Tryz.mx Tryz.func31 (by kernel_rfl) rfl (Nat.le_of_ble_eq_true rfl) rfl fun hcl hbl => ?_
      (repeat' ((conv => whnf); (first | (refine IfN.id ?_; first | refine IfN.tt rfl ?_ | fail) | (refine SideN.mk ?_ ?_; · first | kernel_rfl | omega | exact List.cons_ne_nil _ _ | (simp; done) | (simp; omega) | exact trivial | assumption | fail) | (refine CallD.id ?_; first | refine CallD.det _ (fun _ hq X => q _ _) ?_ | fail) | (refine PtrN.id ?_; first | refine PtrN.base _ (by (repeat' (first | assumption | exact at_loc' _ rfl | exact at_loc0 rfl | refine at_set (B' := ?_) ?_ | refine at_base' ?_ | fail))) ?_ | fail) | refine SegN.mk _ (seg_rfl rfl) ?_ | refine DrawN.mk' [] ?_ | fail))); all_goals (conv => whnf)
      all_goals exact EndN.det (hb _) (Wk.refl _)
    · refine fn_det Tryz.E0 Tryz.mx Tryz.func31 (by kernel_rfl) rfl (Nat.le_of_ble_eq_true rfl) rfl fun hcl hbl => ?_
      (repeat' ((conv => whnf); (first | (refine IfN.id ?_; first | refine IfN.tt rfl ?_ | refine IfN.ff rfl ?_ | fail) | (refine SideN.mk ?_ ?_; · first | kernel_rfl | omega | exact List.cons_ne_nil _ _ | (simp; done) | (simp; omega) | exact trivial | assumption | fail) | (refine CallD.id ?_; first | refine CallD.det _ (fun _ hq X => q _ _) ?_ | fail) | (refine PtrN.id ?_; first | refine PtrN.base _ (by (repeat' (first | assumption | exact at_loc' _ rfl | exact at_loc0 rfl | refine at_set (B' := ?_) ?_ | refine at_base' ?_ | fail))) ?_ | fail) | refine SegN.mk _ (seg_rfl rfl) ?_ | refine DrawN.mk' [] ?_ | fail))); all_goals (conv => whnf)
      all_goals exact EndN.det (hb _) (Wk.refl _)
theorem put_f2 (k : Nat) (hk : is2 k) (a b : Fm) (iha : PutP a) (ihb : PutP b) : PutP (.f2 k a b) := by
  intro H p hp
  have q := fun X Y => iha ((H ++ X) ++ Y) p (at_base' (at_base' hp))
  have r := fun X Y => ihb ((H ++ X) ++ Y) p (at_base' (at_base' hp))
  have hba : ∀ m, belowL m (putF a).cells := fun m => by simp [Fm.cells, below, belowL, Fm.sc_below]
  have hbb : ∀ m, belowL m (putF b).cells := fun m => by simp [Fm.cells, below, belowL, Fm.sc_below]
  have hca : ∃ o n s c, (putF a).cells = [.int .u8 (o : Nat), .str n, .sl none 0 [], .sl none s c] := ⟨_, _, _, _, rfl⟩
  have hcb : ∃ o n s c, (putF b).cells = [.int .u8 (o : Nat), .str n, .sl none 0 [], .sl none s c] := ⟨_, _, _, _, rfl⟩
  rw [show (Fm.f2 k a b).cells = [.int .u8 (k : Nat), .str .empty, .sl none 0 [], .sl none 2 [.int .u8 a.op, .str a.nmB, .sl none 0 [], .sl none a.sn a.sc, .int .u8 b.op, .str b.nmB, .sl none 0 [], .sl none b.sn b.sc]] from rfl]
  unfold putF
  unfold Fm.cells at q r
  generalize a.op = ao at q ⊢
  generalize a.nmB = an at q ⊢
  generalize a.sn = asn at q ⊢
  generalize a.sc = asc at q ⊢
  generalize b.op = bo at r ⊢
  generalize b.nmB = bn at r ⊢
  generalize b.sn = bsn at r ⊢
  generalize b.sc = bsc at r ⊢
  change ∀ X Y, VDet Tryz.prog 31 _ ((H ++ X) ++ Y) (.agg (putF a).cells) at q
  change ∀ X Y, VDet Tryz.prog 31 _ ((H ++ X) ++ Y) (.agg (putF b).cells) at r
  obtain ⟨o, n, s, c, hca⟩ := hca
  obtain ⟨o2, n2, s2, c2, hcb⟩ := hcb
  by_cases h14 : k = 14
  · subst h14
    rw [if_pos rfl]
    rw [hcb] at r hbb ⊢
    refine fn_det Tryz.E0 Tryz.mx Tryz.func31 (by kernel_rfl) rfl (Nat.le_of_ble_eq_true rfl) rfl fun hcl hbl => ?_
    (repeat' ((conv => whnf); (first | (refine IfN.id ?_; first | refine IfN.tt rfl ?_ | refine IfN.ff rfl ?_ | fail) | (refine SideN.mk ?_ ?_; · first | kernel_rfl | omega | exact List.cons_ne_nil _ _ | (simp; done) | (simp; omega) | exact trivial | assumption | fail) | (refine CallD.id ?_; first | refine CallD.det _ (fun _ hq X => r _ _) ?_ | fail) | (refine PtrN.id ?_; first | refine PtrN.base _ (by (repeat' (first | assumption | exact at_loc' _ rfl | exact at_loc0 rfl | refine at_set (B' := ?_) ?_ | refine at_base' ?_ | fail))) ?_ | fail) | refine SegN.mk _ (seg_rfl rfl) ?_ | refine DrawN.mk' [] ?_ | fail))); all_goals (conv => whnf)
    all_goals exact EndN.det (hbb _) (Wk.refl _)
  · rw [if_neg h14]
    rw [show (Fm.f2 k (putF a) (putF b)).cells = [.int .u8 (k : Nat), .str .empty, .sl none 0 [], .sl none 2 ((putF a).cells ++ (putF b).cells)] from rfl]
    rw [hca] at q hba ⊢
    rw [hcb] at r hbb ⊢
    have hkb : k = 4 ∨ k = 5 ∨ k = 6 ∨ k = 7 := by unfold is2 at hk; omega
    clear hk h14
    refine fn_det Tryz.E0 Tryz.mx Tryz.func31 (by kernel_rfl) rfl (Nat.le_of_ble_eq_true rfl) rfl fun hcl hbl => ?_
    (repeat' ((conv => whnf); (first | (refine IfN.id ?_; first | refine IfN.dF (by omega) ?_ | fail) | refine DrawN.mk' [] ?_ | fail))); all_goals (conv => whnf)
    refine LoopN.tokB 2 3 50 4 rfl rfl rfl rfl rfl rfl ?_
    refine LoopN.rounds Tryz.E0 Tryz.mx 3 rfl ?_
    (repeat' ((conv => whnf); (first | (refine IfN.id ?_; first | refine IfN.tt rfl ?_ | refine IfN.ff rfl ?_ | fail) | (refine EqN.id ?_; first | (refine EqN.addN _ _ (by first | with_reducible rfl | with_reducible exact cst1 | with_reducible exact cst0 | with_reducible exact cst2 | with_reducible exact cst3 | with_reducible exact cst4 | with_reducible exact cst5 | with_reducible exact cst6 | with_reducible exact cst7 | with_reducible exact cst8 | with_reducible exact cst14 | with_reducible exact cst15 | with_reducible exact cst25 | with_reducible exact cst30 | with_reducible exact cst31 | fail) (by first | with_reducible rfl | with_reducible exact cst1 | with_reducible exact cst0 | with_reducible exact cst2 | with_reducible exact cst3 | with_reducible exact cst4 | with_reducible exact cst5 | with_reducible exact cst6 | with_reducible exact cst7 | with_reducible exact cst8 | with_reducible exact cst14 | with_reducible exact cst15 | with_reducible exact cst25 | with_reducible exact cst30 | with_reducible exact cst31 | fail) ?_ ?_; · (repeat' (first | omega | refine And.intro ?_ ?_ | exact bnd_andl (by omega) | exact bnd_andr (by omega) | refine bnd_or ?_ ?_ | refine bnd_or31 ?_ ?_ | refine bnd_xor ?_ ?_ | refine bnd_xor31 ?_ ?_ | refine bnd_shr ?_ | refine bnd_shl ?_ ?_ | refine bnd_mod ?_ | refine bnd_andl ?_ | fail))) | fail) | (refine SideN.mk ?_ ?_; · first | kernel_rfl | omega | exact List.cons_ne_nil _ _ | (simp; done) | (simp; omega) | exact trivial | assumption | fail) | (refine CallD.id ?_; first | refine CallD.det _ (fun _ hq X => q _ _) ?_ | refine CallD.det _ (fun _ hq X => r _ _) ?_ | fail) | refine SideN.mk ⟨rfl, rfl, rfl, by simp, by simp [maxLen]⟩ ?_ | (refine PtrN.id ?_; first | refine PtrN.loc _ rfl ?_ | refine PtrN.base _ (by (repeat' (first | assumption | exact at_loc' _ rfl | exact at_loc0 rfl | refine at_set (B' := ?_) ?_ | refine at_base' ?_ | fail))) ?_ | fail) | refine SegN.mk _ (seg_rfl rfl) ?_ | refine DrawN.mk' [] ?_ | fail))); all_goals (conv => whnf)
    all_goals exact EndN.det (by have := hba H.length; have := hbb H.length; simp [below, belowL] at *; simp [*]) (wk_agg ⟨Wk.refl _, Wk.refl _, wk_nils, wk_sl _ _ _, trivial⟩)
theorem put_c : ∀ f : Fm, f.Temp → PutP f
  | .at c, _ => put_at c
  | .fa, _ => put_fa
  | .f1 k a, h => put_f1 k h.1 a (put_c a h.2)
  | .f2 k a b, h => put_f2 k h.1 a b (put_c a h.2.1) (put_c b h.2.2)
end Go.Proofs.YtjflngchbeegcaaGreatDoor
/-! text SG10z -/
namespace Go.Proofs.YtjflngchbeegcaaGreatDoor.P10
open Go.Vsi
set_option maxHeartbeats 1000000

/-! ### names in general: syntax.Predicate, Variable, Function for any string -/
def inR (a b : Nat) (c : UInt8) : Bool := decide (a ≤ c.toNat) && decide (c.toNat ≤ b)
def isCap : UInt8 → Bool := inR 65 90
def isSml : UInt8 → Bool := inR 97 122
def isDig : UInt8 → Bool := inR 48 57
def isAln (c : UInt8) : Bool := isSml c || (isCap c || isDig c)
def isVa1 : UInt8 → Bool := inR 117 122
def isFu1 : UInt8 → Bool := inR 97 116
def wordE (s : ByteArray) (l : Array UInt8) : Bool := s.toList == (ByteArray.mk l).toList
def isRes (s : ByteArray) : Bool := wordE s #[97, 108, 108] || (wordE s #[115, 111, 109, 101] || (wordE s #[102, 97, 108, 115, 101] || (wordE s #[110, 101, 120, 116] || (wordE s #[97, 108, 119, 97, 121, 115] || wordE s #[117, 110, 116, 105, 108]))))
def bt (s : ByteArray) (i : Nat) : UInt8 := s.data.toList.getD i 0
def nameB (p q : UInt8 → Bool) (s : ByteArray) : Bool := decide (1 ≤ s.size ∧ s.size ≤ 16) && (!isRes s && (p (bt s 0) && (List.range' 1 (s.size - 1)).all fun i => q (bt s i)))
def isPred : ByteArray → Bool := nameB isCap isAln
def isVar : ByteArray → Bool := nameB isVa1 isDig
def isFun : ByteArray → Bool := nameB isFu1 isAln
theorem bt_get (s : ByteArray) (i : Nat) (h : i < s.size) (j : Int) (hj : j = i) : s[j.toNat]? = some (bt s i) := by
  subst hj
  rw [Int.toNat_natCast]
  have h2 : i < s.data.toList.length := by simpa using h
  have : s[i]? = s.data[i]? := by
    rw [getElem?_pos s i h]
    rw [Array.getElem?_eq_getElem (show i < s.data.size from h)]
    rfl
  rw [this]
  unfold bt
  rw [List.getD_eq_getElem?_getD, List.getElem?_eq_getElem h2]
  simp
attribute [local irreducible] VW VCall VO
def CharC (F : Nat) (p : UInt8 → Bool) : Prop := ∀ (c : UInt8) (H : Heap), VDet Tryz.prog F [.int .u8 c.toNat] H (.bool (p c))
theorem capital_g : CharC 91 isCap := by
  intro c H
  refine fn_det Tryz.E0 Tryz.mx Tryz.func91 (by kernel_rfl) rfl (Nat.le_of_ble_eq_true rfl) rfl fun hcl hbl => ?_
  (repeat' ((conv => whnf); (first | (refine IfN.id ?_; first | refine IfN.dec (fun _ => ?_) (fun _ => ?_) | fail) | refine DrawN.mk' [] ?_ | fail))); all_goals (conv => whnf)
  all_goals (refine EndN.det trivial (Wk.of_eq (congrArg AV.bool (Bool.eq_iff_iff.2 ?_))); simp only [isCap, inR, Bool.and_eq_true, decide_eq_true_eq, Bool.false_eq_true, false_iff]; omega)
theorem small_g : CharC 131 isSml := by
  intro c H
  refine fn_det Tryz.E0 Tryz.mx Tryz.func131 (by kernel_rfl) rfl (Nat.le_of_ble_eq_true rfl) rfl fun hcl hbl => ?_
  (repeat' ((conv => whnf); (first | (refine IfN.id ?_; first | refine IfN.dec (fun _ => ?_) (fun _ => ?_) | fail) | refine DrawN.mk' [] ?_ | fail))); all_goals (conv => whnf)
  all_goals (refine EndN.det trivial (Wk.of_eq (congrArg AV.bool (Bool.eq_iff_iff.2 ?_))); simp only [isSml, inR, Bool.and_eq_true, decide_eq_true_eq, Bool.false_eq_true, false_iff]; omega)
theorem digit_g : CharC 132 isDig := by
  intro c H
  refine fn_det Tryz.E0 Tryz.mx Tryz.func132 (by kernel_rfl) rfl (Nat.le_of_ble_eq_true rfl) rfl fun hcl hbl => ?_
  (repeat' ((conv => whnf); (first | (refine IfN.id ?_; first | refine IfN.dec (fun _ => ?_) (fun _ => ?_) | fail) | refine DrawN.mk' [] ?_ | fail))); all_goals (conv => whnf)
  all_goals (refine EndN.det trivial (Wk.of_eq (congrArg AV.bool (Bool.eq_iff_iff.2 ?_))); simp only [isDig, inR, Bool.and_eq_true, decide_eq_true_eq, Bool.false_eq_true, false_iff]; omega)
theorem va1_g : CharC 181 isVa1 := by
  intro c H
  refine fn_det Tryz.E0 Tryz.mx Tryz.func181 (by kernel_rfl) rfl (Nat.le_of_ble_eq_true rfl) rfl fun hcl hbl => ?_
  (repeat' ((conv => whnf); (first | (refine IfN.id ?_; first | refine IfN.dec (fun _ => ?_) (fun _ => ?_) | fail) | refine DrawN.mk' [] ?_ | fail))); all_goals (conv => whnf)
  all_goals (refine EndN.det trivial (Wk.of_eq (congrArg AV.bool (Bool.eq_iff_iff.2 ?_))); simp only [isVa1, inR, Bool.and_eq_true, decide_eq_true_eq, Bool.false_eq_true, false_iff]; omega)
theorem fu1_g : CharC 196 isFu1 := by
  intro c H
  refine fn_det Tryz.E0 Tryz.mx Tryz.func196 (by kernel_rfl) rfl (Nat.le_of_ble_eq_true rfl) rfl fun hcl hbl => ?_
  (repeat' ((conv => whnf); (first | (refine IfN.id ?_; first | refine IfN.dec (fun _ => ?_) (fun _ => ?_) | fail) | refine DrawN.mk' [] ?_ | fail))); all_goals (conv => whnf)
  all_goals (refine EndN.det trivial (Wk.of_eq (congrArg AV.bool (Bool.eq_iff_iff.2 ?_))); simp only [isFu1, inR, Bool.and_eq_true, decide_eq_true_eq, Bool.false_eq_true, false_iff]; omega)
theorem alnum_g : CharC 92 isAln := by
  intro c H
  have h1 := small_g c
  have h2 := capital_g c
  have h3 := digit_g c
  unfold isAln
  generalize isSml c = a at *
  generalize isCap c = b at *
  generalize isDig c = d at *
  refine fn_det Tryz.E0 Tryz.mx Tryz.func92 (by kernel_rfl) rfl (Nat.le_of_ble_eq_true rfl) rfl fun hcl hbl => ?_
  (repeat' ((conv => whnf); (first | (refine IfN.id ?_; first | (refine IfN.mk ?_ ?_ <;> intro _) | fail) | (refine CallN.id ?_; first | refine CallN.det _ (h1 _) ?_ | refine CallN.det _ (h2 _) ?_ | refine CallN.det _ (h3 _) ?_ | fail) | refine DrawN.mk' [] ?_ | fail))); all_goals (conv => whnf)
  all_goals exact EndN.det trivial (Wk.of_eq (by simp_all))
theorem reserved_g (s : ByteArray) (H : Heap) : VDet Tryz.prog 130 [.str s] H (.bool (isRes s)) := by
  unfold isRes
  have e1 : (s.toList == (ByteArray.mk #[97, 108, 108]).toList) = wordE s #[97, 108, 108] := rfl
  have e2 : (s.toList == (ByteArray.mk #[115, 111, 109, 101]).toList) = wordE s #[115, 111, 109, 101] := rfl
  have e3 : (s.toList == (ByteArray.mk #[102, 97, 108, 115, 101]).toList) = wordE s #[102, 97, 108, 115, 101] := rfl
  have e4 : (s.toList == (ByteArray.mk #[110, 101, 120, 116]).toList) = wordE s #[110, 101, 120, 116] := rfl
  have e5 : (s.toList == (ByteArray.mk #[97, 108, 119, 97, 121, 115]).toList) = wordE s #[97, 108, 119, 97, 121, 115] := rfl
  have e6 : (s.toList == (ByteArray.mk #[117, 110, 116, 105, 108]).toList) = wordE s #[117, 110, 116, 105, 108] := rfl
  generalize wordE s #[97, 108, 108] = b1 at *
  generalize wordE s #[115, 111, 109, 101] = b2 at *
  generalize wordE s #[102, 97, 108, 115, 101] = b3 at *
  generalize wordE s #[110, 101, 120, 116] = b4 at *
  generalize wordE s #[97, 108, 119, 97, 121, 115] = b5 at *
  generalize wordE s #[117, 110, 116, 105, 108] = b6 at *
  cases b1
  · cases b2
    · cases b3
      · cases b4
        · cases b5
          · cases b6
            · refine fn_det Tryz.E0 Tryz.mx Tryz.func130 (by kernel_rfl) rfl (Nat.le_of_ble_eq_true rfl) rfl fun hcl hbl => ?_
              (repeat' ((conv => whnf); (first | (refine IfN.id ?_; first | refine IfN.ff e1 ?_ | refine IfN.ff e2 ?_ | refine IfN.ff e3 ?_ | refine IfN.ff e4 ?_ | refine IfN.ff e5 ?_ | refine IfN.ff e6 ?_ | fail) | refine DrawN.mk' [] ?_ | fail))); all_goals (conv => whnf)
              exact EndN.det trivial (Wk.refl _)
            · refine fn_det Tryz.E0 Tryz.mx Tryz.func130 (by kernel_rfl) rfl (Nat.le_of_ble_eq_true rfl) rfl fun hcl hbl => ?_
              (repeat' ((conv => whnf); (first | (refine IfN.id ?_; first | refine IfN.ff e1 ?_ | refine IfN.ff e2 ?_ | refine IfN.ff e3 ?_ | refine IfN.ff e4 ?_ | refine IfN.ff e5 ?_ | refine IfN.tt e6 ?_ | fail) | refine DrawN.mk' [] ?_ | fail))); all_goals (conv => whnf)
              exact EndN.det trivial (Wk.refl _)
          · refine fn_det Tryz.E0 Tryz.mx Tryz.func130 (by kernel_rfl) rfl (Nat.le_of_ble_eq_true rfl) rfl fun hcl hbl => ?_
            (repeat' ((conv => whnf); (first | (refine IfN.id ?_; first | refine IfN.ff e1 ?_ | refine IfN.ff e2 ?_ | refine IfN.ff e3 ?_ | refine IfN.ff e4 ?_ | refine IfN.tt e5 ?_ | fail) | refine DrawN.mk' [] ?_ | fail))); all_goals (conv => whnf)
            exact EndN.det trivial (Wk.refl _)
        · refine fn_det Tryz.E0 Tryz.mx Tryz.func130 (by kernel_rfl) rfl (Nat.le_of_ble_eq_true rfl) rfl fun hcl hbl => ?_
          (repeat' ((conv => whnf); (first | (refine IfN.id ?_; first | refine IfN.ff e1 ?_ | refine IfN.ff e2 ?_ | refine IfN.ff e3 ?_ | refine IfN.tt e4 ?_ | fail) | refine DrawN.mk' [] ?_ | fail))); all_goals (conv => whnf)
          exact EndN.det trivial (Wk.refl _)
      · refine fn_det Tryz.E0 Tryz.mx Tryz.func130 (by kernel_rfl) rfl (Nat.le_of_ble_eq_true rfl) rfl fun hcl hbl => ?_
        (repeat' ((conv => whnf); (first | (refine IfN.id ?_; first | refine IfN.ff e1 ?_ | refine IfN.ff e2 ?_ | refine IfN.tt e3 ?_ | fail) | refine DrawN.mk' [] ?_ | fail))); all_goals (conv => whnf)
        exact EndN.det trivial (Wk.refl _)
    · refine fn_det Tryz.E0 Tryz.mx Tryz.func130 (by kernel_rfl) rfl (Nat.le_of_ble_eq_true rfl) rfl fun hcl hbl => ?_
      (repeat' ((conv => whnf); (first | (refine IfN.id ?_; first | refine IfN.ff e1 ?_ | refine IfN.tt e2 ?_ | fail) | refine DrawN.mk' [] ?_ | fail))); all_goals (conv => whnf)
      exact EndN.det trivial (Wk.refl _)
  · refine fn_det Tryz.E0 Tryz.mx Tryz.func130 (by kernel_rfl) rfl (Nat.le_of_ble_eq_true rfl) rfl fun hcl hbl => ?_
    (repeat' ((conv => whnf); (first | (refine IfN.id ?_; first | refine IfN.tt e1 ?_ | fail) | refine DrawN.mk' [] ?_ | fail))); all_goals (conv => whnf)
    exact EndN.det trivial (Wk.refl _)
theorem check_g (F1 F2 : Nat) (p q : UInt8 → Bool) (h1 : CharC F1 p) (h2 : CharC F2 q) (s : ByteArray) (hs : s.size ≤ 9223372036854775807) (H : Heap) : VDet Tryz.prog 129 [.str s, .rptr [.clo (.func F1) [] []], .rptr [.clo (.func F2) [] []]] H (.bool (nameB p q s)) := by
  have hr := reserved_g s
  unfold nameB
  by_cases h0 : 1 ≤ s.size ∧ s.size ≤ 16
  · rw [decide_eq_true h0, Bool.true_and]
    have hb0 := bt_get s 0 (by omega) 0 rfl
    have hp := h1 (bt s 0)
    generalize isRes s = r at *
    cases r with
    | true =>
      refine fn_det Tryz.E0 Tryz.mx Tryz.func129 (by kernel_rfl) rfl (Nat.le_of_ble_eq_true rfl) rfl fun hcl hbl => ?_
      (repeat' ((conv => whnf); (first | (refine IfN.id ?_; first | refine IfN.tt rfl ?_ | refine IfN.dF (by omega) ?_ | fail) | (refine SideN.mk ?_ ?_; · first | kernel_rfl | omega | exact List.cons_ne_nil _ _ | (simp; done) | (simp; omega) | exact trivial | assumption | fail) | (refine CallD.id ?_; first | refine CallD.det _ (fun _ hq X => hr _) ?_ | fail) | refine DrawN.mk' [] ?_ | fail))); all_goals (conv => whnf)
      exact EndN.det trivial (Wk.refl _)
    | false =>
      cases hpb : p (bt s 0) with
      | false =>
        rw [hpb] at hp
        refine fn_det Tryz.E0 Tryz.mx Tryz.func129 (by kernel_rfl) rfl (Nat.le_of_ble_eq_true rfl) rfl fun hcl hbl => ?_
        (repeat' ((conv => whnf); (first | (refine IfN.id ?_; first | refine IfN.not ?_ | refine IfN.ff rfl ?_ | refine IfN.dF (by omega) ?_ | fail) | (refine SideN.mk ?_ ?_; · first | kernel_rfl | omega | exact List.cons_ne_nil _ _ | (simp; done) | (simp; omega) | exact trivial | assumption | fail) | (refine CallD.id ?_; first | refine CallD.det _ (fun _ hq X => hr _) ?_ | refine CallD.det _ (fun _ hq X => hp _) ?_ | fail) | refine ByteN.mk _ hb0 ?_ | refine DrawN.mk' [] ?_ | fail))); all_goals (conv => whnf)
        exact EndN.det trivial (Wk.refl _)
      | true =>
        rw [hpb] at hp
        refine fn_det Tryz.E0 Tryz.mx Tryz.func129 (by kernel_rfl) rfl (Nat.le_of_ble_eq_true rfl) rfl fun hcl hbl => ?_
        (repeat' ((conv => whnf); (first | (refine IfN.id ?_; first | refine IfN.not ?_ | refine IfN.tt rfl ?_ | refine IfN.ff rfl ?_ | refine IfN.dF (by omega) ?_ | fail) | (refine SideN.mk ?_ ?_; · first | kernel_rfl | omega | exact List.cons_ne_nil _ _ | (simp; done) | (simp; omega) | exact trivial | assumption | fail) | (refine CallD.id ?_; first | refine CallD.det _ (fun _ hq X => hr _) ?_ | refine CallD.det _ (fun _ hq X => hp _) ?_ | fail) | refine ByteN.mk _ hb0 ?_ | refine DrawN.mk' [] ?_ | fail))); all_goals (conv => whnf)
        refine loop_R Tryz.E0 Tryz.mx (σ := Nat) (fun k => 1 ≤ k ∧ k ≤ s.size ∧ ∀ i, 1 ≤ i → i < k → q (bt s i) = true) (fun k => s.size - k) (fun k => [(5, .v (.int .i64 k))]) (fun _ => []) _ 1 rfl hcl [0, 2] rfl ⟨Nat.le_refl _, by omega, fun i h1 h2 => by omega⟩ ⟨⟨_, rfl, Wk.refl _⟩, trivial⟩ rfl (fun _ _ => rfl) ?_
        rintro k ⟨hk1, hk, hall⟩
        clear hbl
        by_cases hlt : k < s.size
        · have hbk := bt_get s k hlt k rfl
          have hcq := h2 (bt s k)
          cases hqb : q (bt s k) with
          | true =>
            rw [hqb] at hcq
            (repeat' ((conv => whnf); (first | (refine IfN.id ?_; first | refine IfN.not ?_ | refine IfN.tt rfl ?_ | refine IfN.dT (by omega) ?_ | fail) | (refine EqN.id ?_; first | (refine EqN.addN _ _ (by first | with_reducible rfl | with_reducible exact cst1 | with_reducible exact cst0 | with_reducible exact cst2 | with_reducible exact cst3 | with_reducible exact cst4 | with_reducible exact cst5 | with_reducible exact cst6 | with_reducible exact cst7 | with_reducible exact cst8 | with_reducible exact cst14 | with_reducible exact cst15 | with_reducible exact cst25 | with_reducible exact cst30 | with_reducible exact cst31 | fail) (by first | with_reducible rfl | with_reducible exact cst1 | with_reducible exact cst0 | with_reducible exact cst2 | with_reducible exact cst3 | with_reducible exact cst4 | with_reducible exact cst5 | with_reducible exact cst6 | with_reducible exact cst7 | with_reducible exact cst8 | with_reducible exact cst14 | with_reducible exact cst15 | with_reducible exact cst25 | with_reducible exact cst30 | with_reducible exact cst31 | fail) ?_ ?_; · (repeat' (first | omega | refine And.intro ?_ ?_ | exact bnd_andl (by omega) | exact bnd_andr (by omega) | refine bnd_or ?_ ?_ | refine bnd_or31 ?_ ?_ | refine bnd_xor ?_ ?_ | refine bnd_xor31 ?_ ?_ | refine bnd_shr ?_ | refine bnd_shl ?_ ?_ | refine bnd_mod ?_ | refine bnd_andl ?_ | fail))) | fail) | (refine SideN.mk ?_ ?_; · first | kernel_rfl | omega | exact List.cons_ne_nil _ _ | (simp; done) | (simp; omega) | exact trivial | assumption | fail) | (refine CallD.id ?_; first | refine CallD.det _ (fun _ hq X => hcq _) ?_ | fail) | refine ByteN.mk _ hbk ?_ | refine DrawN.mk' [] ?_ | fail))); all_goals (conv => whnf)
            (refine ⟨⟨k + 1, ⟨by omega, by omega, fun i h3 h4 => by
              by_cases e : i = k
              · rw [e]; exact hqb
              · exact hall i h3 (by omega)⟩, by omega, ?_, .inl ⟨rfl, rfl⟩, rfl, _, rfl, ?_⟩⟩; rotate_left 1; (first | exact .inl rfl | exact .inr ⟨by simp [belowRE, below, belowL, tr, and_self], by simp [belowH, Blk.below, belowL, below, and_self]⟩ | fail); (repeat' (first | exact trivial | refine ⟨⟨_, rfl, ?_⟩, ?_⟩ | fail)); all_goals try (first | exact Wk.refl _ | exact Wk.of_eq (congrArg (AV.int _) (by omega)) | fail))
          | false =>
            rw [hqb] at hcq
            (repeat' ((conv => whnf); (first | (refine IfN.id ?_; first | refine IfN.not ?_ | refine IfN.ff rfl ?_ | refine IfN.dT (by omega) ?_ | fail) | (refine SideN.mk ?_ ?_; · first | kernel_rfl | omega | exact List.cons_ne_nil _ _ | (simp; done) | (simp; omega) | exact trivial | assumption | fail) | (refine CallD.id ?_; first | refine CallD.det _ (fun _ hq X => hcq _) ?_ | fail) | refine ByteN.mk _ hbk ?_ | refine DrawN.mk' [] ?_ | fail))); all_goals (conv => whnf)
            refine EndN.det trivial (Wk.of_eq ?_)
            have : ((List.range' 1 (s.size - 1)).all fun i => q (bt s i)) = false := by
              apply Bool.eq_false_iff.2
              intro hA
              have := List.all_eq_true.1 hA k (List.mem_range'.2 ⟨k - 1, by omega, by omega⟩)
              rw [hqb] at this
              cases this
            rw [this]
            rfl
        · have : ((List.range' 1 (s.size - 1)).all fun i => q (bt s i)) = true := by
            rw [List.all_eq_true]
            intro i hi
            obtain ⟨j, hj, rfl⟩ := List.mem_range'.1 hi
            exact hall _ (by omega) (by omega)
          rw [this]
          (repeat' ((conv => whnf); (first | (refine IfN.id ?_; first | refine IfN.dF (by omega) ?_ | fail) | refine DrawN.mk' [] ?_ | fail))); all_goals (conv => whnf)
          exact EndN.det trivial (Wk.refl _)
  · rw [decide_eq_false h0, Bool.false_and]
    refine fn_det Tryz.E0 Tryz.mx Tryz.func129 (by kernel_rfl) rfl (Nat.le_of_ble_eq_true rfl) rfl fun hcl hbl => ?_
    (repeat' ((conv => whnf); (first | (refine IfN.id ?_; first | refine IfN.dT (by omega) ?_ | refine IfN.dec (fun _ => ?_) (fun _ => ?_) | fail) | (refine SideN.mk ?_ ?_; · first | kernel_rfl | omega | exact List.cons_ne_nil _ _ | (simp; done) | (simp; omega) | exact trivial | assumption | fail) | refine DrawN.mk' [] ?_ | fail))); all_goals (conv => whnf)
    all_goals exact EndN.det trivial (Wk.refl _)
end Go.Proofs.YtjflngchbeegcaaGreatDoor.P10
/-! text SH10z -/
namespace Go.Proofs.YtjflngchbeegcaaGreatDoor.P10
open Go.Vsi
set_option maxHeartbeats 2000000

/-! ### syntax.Right in general: terms -/
def jB (L : Int) : Blk := .box 150 [.bool false, .int .i64 L, .int .i64 40]
theorem jB_below (L : Int) (n : Nat) : (jB L).below n := by simp [jB, Blk.below, belowL, below]
mutual
def jT (d : Nat) : Tm → Int → Int × Bool
  | .mk v s l, L => if ¬ (1 ≤ L ∧ d ≤ 40) then (L - 1, false) else if v then (L - 1, decide (l.length = 0) && isVar s) else if l.length ≤ 4 ∧ isFun s = true then jTs (d + 1) l (L - 1) else (L - 1, false)
def jTs (d : Nat) : List Tm → Int → Int × Bool
  | [], L => (L, true)
  | x :: l, L => match jT d x L with
    | (M, true) => jTs d l M
    | (M, false) => (M, false)
end
mutual
theorem jT_bd (d : Nat) : ∀ (x : Tm) (L : Int), 0 ≤ L → -1 ≤ (jT d x L).1 ∧ (jT d x L).1 ≤ L ∧ ((jT d x L).2 = true → 0 ≤ (jT d x L).1)
  | .mk v s l, L, h => by
    unfold jT
    split
    · exact ⟨by simp only; omega, by simp only; omega, fun h => by cases h⟩
    · split
      · exact ⟨by simp only; omega, by simp only; omega, fun _ => by simp only; omega⟩
      · split
        · have := jTs_bd (d + 1) l (L - 1) (by omega)
          exact ⟨this.1, by omega, this.2.2⟩
        · exact ⟨by simp only; omega, by simp only; omega, fun h => by cases h⟩
theorem jTs_bd (d : Nat) : ∀ (l : List Tm) (L : Int), 0 ≤ L → -1 ≤ (jTs d l L).1 ∧ (jTs d l L).1 ≤ L ∧ ((jTs d l L).2 = true → 0 ≤ (jTs d l L).1)
  | [], L, h => by unfold jTs; exact ⟨by simp only; omega, by simp only; omega, fun _ => h⟩
  | x :: l, L, h => by
    have h1 := jT_bd d x L h
    unfold jTs
    split
    · rename_i M hM
      rw [hM] at h1
      have h2 := jTs_bd d l M (h1.2.2 rfl)
      exact ⟨h2.1, by have := h1.2.1; simp only at this; omega, h2.2.2⟩
    · rename_i M hM
      rw [hM] at h1
      exact ⟨h1.1, h1.2.1, fun h => by cases h⟩
end
theorem SegN.nthE {α : Type} {f : α → List AV} {sz : Nat} {l : List α} {i : Int} {k : List AV → Prop} {c : List AV} (d : α) (m : Nat) (hi : i = m) (hm : m < l.length) (hsz : ∀ x, (f x).length = sz) (e : f (l.getD m d) = c) (h : k c) : SegN (l.flatMap f) (i.toNat * sz) k :=
  SegN.nth d m hi hm hsz (e ▸ h)
theorem tm_size : ∀ x : Tm, x.cells.length = 3
  | .mk v s l => by rw [Tm.cells_mk]; rfl
theorem set_self {H : Heap} {i : Nat} {B : Blk} (h : H[i]? = some B) : H.set i B = H := by
  apply List.ext_getElem?
  intro j
  rw [List.getElem?_set]
  split
  · rename_i e
    subst e
    split
    · exact h.symm
    · rename_i hlt
      rw [List.getElem?_eq_none (by omega)] at h
      cases h
  · rfl
theorem closed_set {H : Heap} (h : Closed H) (i : Nat) (B : Blk) (hB : B.below H.length) : Closed (H.set i B) := by
  intro j C hj
  rw [List.length_set]
  rw [List.getElem?_set] at hj
  split at hj
  · split at hj
    · cases hj; exact hB
    · cases hj
  · exact h j C hj
theorem drop_getD {α : Type} (l : List α) (k : Nat) (d : α) (h : k < l.length) : l.drop k = l.getD k d :: l.drop (k + 1) := by
  rw [List.drop_eq_getElem_cons h]
  simp [List.getD_eq_getElem?_getD, List.getElem?_eq_getElem h]
theorem getD_memT {α : Type} (l : List α) (k : Nat) (d : α) (h : k < l.length) : l.getD k d ∈ l := by
  rw [show l.getD k d = l[k] by simp [List.getD_eq_getElem?_getD, List.getElem?_eq_getElem h]]
  exact List.getElem_mem h
theorem jTs_nil (d : Nat) (L : Int) : jTs d [] L = (L, true) := by unfold jTs; rfl
theorem jTs_cons (d : Nat) (x : Tm) (l : List Tm) (L : Int) : jTs d (x :: l) L = if (jT d x L).2 then jTs d l (jT d x L).1 else ((jT d x L).1, false) := by
  rw [jTs.eq_def]
  simp only
  split
  · rename_i M h; rw [h]; rfl
  · rename_i M h; rw [h]; rfl
attribute [local irreducible] VW VCall VO bits
theorem node_g (H : Heap) (i : Nat) (L : Int) (d : Nat) (hi : H[i]? = some (jB L)) (hL : 0 ≤ L ∧ L ≤ 400) (hd : d ≤ 41) : VCall Tryz.prog 159 [.ptr i 0, .int .i64 d] H (setR H i (jB (L - 1)) (.bool (decide (1 ≤ L ∧ d ≤ 40)))) := by
  unfold jB at hi ⊢
  by_cases h : 1 ≤ L ∧ d ≤ 40
  · rw [decide_eq_true h]
    refine fn_gen Tryz.E0 Tryz.mx Tryz.func159 (by kernel_rfl) rfl (Nat.le_of_ble_eq_true rfl) rfl fun hcl hbl => ?_
    (repeat' ((conv => whnf); (first | (refine IfN.id ?_; first | refine IfN.dT (by omega) ?_ | fail) | (refine EqN.id ?_; first | refine EqN.i64 (by omega) ?_ | fail) | refine SetN.mk _ rfl ?_ | (refine PtrN.id ?_; first | refine PtrN.base _ (by (repeat' (first | assumption | exact at_loc' _ rfl | exact at_loc0 rfl | refine at_set (B' := ?_) ?_ | refine at_base' ?_ | fail))) ?_ | fail) | refine DrawN.mk' [] ?_ | fail))); all_goals (conv => whnf)
    all_goals exact EndN.setB (by simp [Blk.below, belowL, below]) trivial (Wk.of_eq (by simp; try omega))
  · rw [decide_eq_false h]
    refine fn_gen Tryz.E0 Tryz.mx Tryz.func159 (by kernel_rfl) rfl (Nat.le_of_ble_eq_true rfl) rfl fun hcl hbl => ?_
    (repeat' ((conv => whnf); (first | (refine IfN.id ?_; first | refine IfN.dec (fun _ => ?_) (fun _ => ?_) | fail) | (refine EqN.id ?_; first | refine EqN.i64 (by omega) ?_ | fail) | refine SetN.mk _ rfl ?_ | (refine PtrN.id ?_; first | refine PtrN.base _ (by (repeat' (first | assumption | exact at_loc' _ rfl | exact at_loc0 rfl | refine at_set (B' := ?_) ?_ | refine at_base' ?_ | fail))) ?_ | fail) | refine DrawN.mk' [] ?_ | fail))); all_goals (conv => whnf)
    all_goals exact EndN.setB (by simp [Blk.below, belowL, below]) trivial (Wk.of_eq (by simp; try omega))
def TermP (x : Tm) : Prop := ∀ (H : Heap) (i : Nat) (L : Int) (d : Nat), H[i]? = some (jB L) → 0 ≤ L ∧ L ≤ 400 → d ≤ 41 → VCall Tryz.prog 173 [.ptr i 0, .agg x.cells, .int .i64 d] H (setR H i (jB (jT d x L).1) (.bool (jT d x L).2))
def TermsP (l : List Tm) : Prop := ∀ (H : Heap) (i : Nat) (L : Int) (d : Nat), H[i]? = some (jB L) → 0 ≤ L ∧ L ≤ 400 → d ≤ 41 → VCall Tryz.prog 162 [.ptr i 0, .sl none l.length (l.flatMap Tm.cells), .int .i64 d] H (setR H i (jB (jTs d l L).1) (.bool (jTs d l L).2))
theorem terms_g (l : List Tm) (hlen : l.length ≤ 9223372036854775807) (hl : ∀ x ∈ l, TermP x) : TermsP l := by
  intro H i L d hi hL hd
  refine fn_gen Tryz.E0 Tryz.mx Tryz.func162 (by kernel_rfl) rfl (Nat.le_of_ble_eq_true rfl) rfl fun hcl hbl => ?_
  (repeat' ((conv => whnf); (first | refine DrawN.mk' [] ?_ | fail))); all_goals (conv => whnf)
  refine loop_B Tryz.E0 Tryz.mx (σ := Nat × Int) (fun p => p.1 ≤ l.length ∧ (0 ≤ p.2 ∧ p.2 ≤ 400) ∧ jTs d l L = jTs d (l.drop p.1) p.2) (fun p => l.length - p.1) (fun p => [(11, .v (.int .i64 p.1))]) (fun p => H.set i (jB p.2)) (fun _ => []) _ (0, L) (fun p _ => by simp) (fun p _ => closed_set hcl i _ (jB_below _ _)) [0, 2, 9, 10] rfl ⟨Nat.zero_le _, hL, rfl⟩ ⟨⟨_, rfl, Wk.refl _⟩, trivial⟩ (set_self hi).symm rfl (fun _ _ => rfl) ?_
  rintro ⟨k, M⟩ ⟨hk, hM, hj⟩
  simp only at hk hM hj
  have hN : (H.set i (jB M)).length = H.length := by simp
  by_cases hlt : k < l.length
  · have hmem := getD_memT l k (Tm.mk false .empty []) hlt
    rw [drop_getD l k (Tm.mk false .empty []) hlt] at hj
    have hx := fun X => hl _ hmem (H.set i (jB M) ++ X) i M d (at_base' (at_set hi)) hM hd
    have hbd := jT_bd d (l.getD k (Tm.mk false .empty [])) M hM.1
    rw [jTs_cons] at hj
    obtain ⟨v, s, ar, hxe⟩ : ∃ v s ar, l.getD k (Tm.mk false .empty []) = Tm.mk v s ar := by
      cases l.getD k (Tm.mk false .empty []) with
      | mk v s ar => exact ⟨v, s, ar, rfl⟩
    have hce : (l.getD k (Tm.mk false .empty [])).cells = [.bool v, .str s, .sl none ar.length (ar.flatMap Tm.cells)] := by rw [hxe, Tm.cells_mk]
    rw [hce] at hx
    generalize hr : jT d (l.getD k (Tm.mk false .empty [])) M = r at *
    obtain ⟨M', b⟩ := r
    simp only at hx hbd hj
    generalize hB2 : jB M' = B2 at *
    cases b with
    | true =>
      (repeat' ((conv => whnf); (first | (refine IfN.id ?_; first | refine IfN.not ?_ | refine IfN.tt rfl ?_ | refine IfN.dT (by omega) ?_ | fail) | (refine EqN.id ?_; first | (refine EqN.addN _ _ (by first | with_reducible rfl | with_reducible exact cst1 | with_reducible exact cst0 | with_reducible exact cst2 | with_reducible exact cst3 | with_reducible exact cst4 | with_reducible exact cst5 | with_reducible exact cst6 | with_reducible exact cst7 | with_reducible exact cst8 | with_reducible exact cst14 | with_reducible exact cst15 | with_reducible exact cst25 | with_reducible exact cst30 | with_reducible exact cst31 | fail) (by first | with_reducible rfl | with_reducible exact cst1 | with_reducible exact cst0 | with_reducible exact cst2 | with_reducible exact cst3 | with_reducible exact cst4 | with_reducible exact cst5 | with_reducible exact cst6 | with_reducible exact cst7 | with_reducible exact cst8 | with_reducible exact cst14 | with_reducible exact cst15 | with_reducible exact cst25 | with_reducible exact cst30 | with_reducible exact cst31 | fail) ?_ ?_; · (repeat' (first | omega | refine And.intro ?_ ?_ | exact bnd_andl (by omega) | exact bnd_andr (by omega) | refine bnd_or ?_ ?_ | refine bnd_or31 ?_ ?_ | refine bnd_xor ?_ ?_ | refine bnd_xor31 ?_ ?_ | refine bnd_shr ?_ | refine bnd_shl ?_ ?_ | refine bnd_mod ?_ | refine bnd_andl ?_ | fail))) | fail) | (refine SideN.mk ?_ ?_; · first | kernel_rfl | omega | exact List.cons_ne_nil _ _ | (simp; done) | (simp; omega) | exact trivial | assumption | fail) | refine SegN.nthE (Tm.mk false .empty []) k rfl hlt tm_size hce ?_ | refine CallN.setB i _ _ _ _ (at_set hi) (by simp) rfl (hx _) (List.set_set ..) ?_ | refine DrawN.mk' [] ?_ | fail))); all_goals (conv => whnf)
      subst hB2
      (refine ⟨⟨(k + 1, M'), ⟨by simp only; omega, ⟨hbd.2.2 rfl, by simp only; omega⟩, by simpa using hj⟩, by omega, ?_, .inl ⟨rfl, rfl⟩, rfl, _, rfl, ?_⟩⟩; rotate_left 1; (first | exact .inl rfl | exact .inr ⟨by simp [belowRE, below, belowL, tr, and_self], by simp [belowH, Blk.below, belowL, below, and_self]⟩ | fail); (repeat' (first | exact trivial | refine ⟨⟨_, rfl, ?_⟩, ?_⟩ | fail)); all_goals try (first | exact Wk.refl _ | exact Wk.of_eq (congrArg (AV.int _) (by omega)) | fail))
    | false =>
      (repeat' ((conv => whnf); (first | (refine IfN.id ?_; first | refine IfN.not ?_ | refine IfN.ff rfl ?_ | refine IfN.dT (by omega) ?_ | fail) | (refine SideN.mk ?_ ?_; · first | kernel_rfl | omega | exact List.cons_ne_nil _ _ | (simp; done) | (simp; omega) | exact trivial | assumption | fail) | refine SegN.nthE (Tm.mk false .empty []) k rfl hlt tm_size hce ?_ | refine CallN.setB i _ _ _ _ (at_set hi) (by simp) rfl (hx _) (List.set_set ..) ?_ | refine DrawN.mk' [] ?_ | fail))); all_goals (conv => whnf)
      subst hB2
      simp only [Bool.false_eq_true, if_false] at hj
      rw [hj]
      exact EndN.setB (jB_below _ _) trivial (Wk.refl _)
  · have hke : k = l.length := by omega
    subst hke
    rw [List.drop_length, jTs_nil] at hj
    rw [hj]
    (repeat' ((conv => whnf); (first | (refine IfN.id ?_; first | refine IfN.dF (by omega) ?_ | fail) | refine DrawN.mk' [] ?_ | fail))); all_goals (conv => whnf)
    exact EndN.setB (jB_below _ _) trivial (Wk.refl _)
end Go.Proofs.YtjflngchbeegcaaGreatDoor.P10
/-! text SI10z -/
namespace Go.Proofs.YtjflngchbeegcaaGreatDoor.P10
open Go.Vsi
set_option maxHeartbeats 2000000
attribute [local irreducible] VW VCall VO bits

/-! ### one term, all terms -/
theorem checkerV (H : Heap) : VDet Tryz.prog 90 [.clo (.func 181) [] [], .clo (.func 132) [] []] H (.clo (.func 129) [] [.rptr [.clo (.func 181) [] []], .rptr [.clo (.func 132) [] []]]) := by
  refine fn_det Tryz.E0 Tryz.mx Tryz.func90 (by kernel_rfl) rfl (Nat.le_of_ble_eq_true rfl) rfl fun hcl hbl => ?_
  (repeat' ((conv => whnf); (first | refine DrawN.mk' [] ?_ | fail))); all_goals (conv => whnf)
  refine EndN.detF ?_ ?_ (Wk.refl _)
  · simp [below, belowL, fnBelow]
  · repeat' (first | exact FrzL.nil | refine FrzL.cons ?_ ?_ | refine Frz.sx ?_ | refine Frz.clo ?_ ?_ | refine Frz.agg ?_ | refine Frz.tup ?_ | refine Frz.ptr rfl rfl (FrzL.refl _) | refine Frz.ms (by exact rfl) (by exact rfl) (FrzL.refl _) | exact Frz.refl _ | fail)
theorem checkerF (H : Heap) : VDet Tryz.prog 90 [.clo (.func 196) [] [], .clo (.func 92) [] []] H (.clo (.func 129) [] [.rptr [.clo (.func 196) [] []], .rptr [.clo (.func 92) [] []]]) := by
  refine fn_det Tryz.E0 Tryz.mx Tryz.func90 (by kernel_rfl) rfl (Nat.le_of_ble_eq_true rfl) rfl fun hcl hbl => ?_
  (repeat' ((conv => whnf); (first | refine DrawN.mk' [] ?_ | fail))); all_goals (conv => whnf)
  refine EndN.detF ?_ ?_ (Wk.refl _)
  · simp [below, belowL, fnBelow]
  · repeat' (first | exact FrzL.nil | refine FrzL.cons ?_ ?_ | refine Frz.sx ?_ | refine Frz.clo ?_ ?_ | refine Frz.agg ?_ | refine Frz.tup ?_ | refine Frz.ptr rfl rfl (FrzL.refl _) | refine Frz.ms (by exact rfl) (by exact rfl) (FrzL.refl _) | exact Frz.refl _ | fail)
theorem checkerP (H : Heap) : VDet Tryz.prog 90 [.clo (.func 91) [] [], .clo (.func 92) [] []] H (.clo (.func 129) [] [.rptr [.clo (.func 91) [] []], .rptr [.clo (.func 92) [] []]]) := by
  refine fn_det Tryz.E0 Tryz.mx Tryz.func90 (by kernel_rfl) rfl (Nat.le_of_ble_eq_true rfl) rfl fun hcl hbl => ?_
  (repeat' ((conv => whnf); (first | refine DrawN.mk' [] ?_ | fail))); all_goals (conv => whnf)
  refine EndN.detF ?_ ?_ (Wk.refl _)
  · simp [below, belowL, fnBelow]
  · repeat' (first | exact FrzL.nil | refine FrzL.cons ?_ ?_ | refine Frz.sx ?_ | refine Frz.clo ?_ ?_ | refine Frz.agg ?_ | refine Frz.tup ?_ | refine Frz.ptr rfl rfl (FrzL.refl _) | refine Frz.ms (by exact rfl) (by exact rfl) (FrzL.refl _) | exact Frz.refl _ | fail)
theorem variable_g (s : ByteArray) (hs : s.size ≤ 9223372036854775807) (H : Heap) : VDet Tryz.prog 170 [.str s] H (.bool (isVar s)) := by
  have h := check_g _ _ isVa1 isDig va1_g digit_g s hs
  unfold isVar
  generalize nameB isVa1 isDig s = b at *
  refine fn_det Tryz.E0 Tryz.mx Tryz.func170 (by kernel_rfl) rfl (Nat.le_of_ble_eq_true rfl) rfl fun hcl hbl => ?_
  (repeat' ((conv => whnf); (first | (refine CallN.id ?_; first | refine CallN.det _ (checkerV _) ?_ | refine CallN.det _ (h _) ?_ | fail) | refine DrawN.mk' [] ?_ | fail))); all_goals (conv => whnf)
  exact EndN.det trivial (Wk.refl _)
theorem function_g (s : ByteArray) (hs : s.size ≤ 9223372036854775807) (H : Heap) : VDet Tryz.prog 183 [.str s] H (.bool (isFun s)) := by
  have h := check_g _ _ isFu1 isAln fu1_g alnum_g s hs
  unfold isFun
  generalize nameB isFu1 isAln s = b at *
  refine fn_det Tryz.E0 Tryz.mx Tryz.func183 (by kernel_rfl) rfl (Nat.le_of_ble_eq_true rfl) rfl fun hcl hbl => ?_
  (repeat' ((conv => whnf); (first | (refine CallN.id ?_; first | refine CallN.det _ (checkerF _) ?_ | refine CallN.det _ (h _) ?_ | fail) | refine DrawN.mk' [] ?_ | fail))); all_goals (conv => whnf)
  exact EndN.det trivial (Wk.refl _)
theorem predicate_g (s : ByteArray) (hs : s.size ≤ 9223372036854775807) (H : Heap) : VDet Tryz.prog 48 [.str s] H (.bool (isPred s)) := by
  have h := check_g _ _ isCap isAln capital_g alnum_g s hs
  unfold isPred
  generalize nameB isCap isAln s = b at *
  refine fn_det Tryz.E0 Tryz.mx Tryz.func48 (by kernel_rfl) rfl (Nat.le_of_ble_eq_true rfl) rfl fun hcl hbl => ?_
  (repeat' ((conv => whnf); (first | (refine CallN.id ?_; first | refine CallN.det _ (checkerP _) ?_ | refine CallN.det _ (h _) ?_ | fail) | refine DrawN.mk' [] ?_ | fail))); all_goals (conv => whnf)
  exact EndN.det trivial (Wk.refl _)
theorem term_step (v : Bool) (s : ByteArray) (l : List Tm) (hs : s.size ≤ 9223372036854775807) (hl : TermsP l) : TermP (.mk v s l) := by
  intro H i L d hi hL hd
  have hn := fun X => node_g (H ++ X) i L d (at_base' hi) hL hd
  have hv := variable_g s hs
  have hf := function_g s hs
  rw [Tm.cells_mk]
  unfold jT
  by_cases h : 1 ≤ L ∧ d ≤ 40
  · rw [if_neg (not_not_intro h)]
    rw [decide_eq_true h] at hn
    have ht := fun X => hl (H.set i (jB (L - 1)) ++ X) i (L - 1) (d + 1) (at_base' (at_set hi)) (by omega) (by omega)
    generalize isVar s = bv at *
    generalize isFun s = bf at *
    generalize hr : jTs (d + 1) l (L - 1) = r at *
    obtain ⟨M, b⟩ := r
    simp only at ht
    generalize l.flatMap Tm.cells = lc at *
    generalize l.length = n at *
    unfold jB at hi hn ht ⊢
    cases v with
    | true =>
      simp only [if_true]
      cases bv with
      | true =>
        refine fn_gen Tryz.E0 Tryz.mx Tryz.func173 (by kernel_rfl) rfl (Nat.le_of_ble_eq_true rfl) rfl fun hcl hbl => ?_
        (repeat' ((conv => whnf); (first | (refine IfN.id ?_; first | refine IfN.not ?_ | refine IfN.tt rfl ?_ | refine IfN.dec (fun _ => ?_) (fun _ => ?_) | fail) | (refine CallN.id ?_; first | refine CallN.det _ (hv _) ?_ | fail) | refine CallN.setB i _ _ _ _ hi rfl rfl (hn _) rfl ?_ | refine DrawN.mk' [] ?_ | fail))); all_goals (conv => whnf)
        all_goals exact EndN.setB (by simp [Blk.below, belowL, below]) trivial (Wk.of_eq (by simp; try omega))
      | false =>
        refine fn_gen Tryz.E0 Tryz.mx Tryz.func173 (by kernel_rfl) rfl (Nat.le_of_ble_eq_true rfl) rfl fun hcl hbl => ?_
        (repeat' ((conv => whnf); (first | (refine IfN.id ?_; first | refine IfN.not ?_ | refine IfN.tt rfl ?_ | refine IfN.ff rfl ?_ | refine IfN.dec (fun _ => ?_) (fun _ => ?_) | fail) | (refine CallN.id ?_; first | refine CallN.det _ (hv _) ?_ | fail) | refine CallN.setB i _ _ _ _ hi rfl rfl (hn _) rfl ?_ | (refine PtrN.id ?_; first | refine PtrN.base _ (by (repeat' (first | assumption | exact at_loc' _ rfl | exact at_loc0 rfl | refine at_set (B' := ?_) ?_ | refine at_base' ?_ | fail))) ?_ | fail) | refine DrawN.mk' [] ?_ | fail))); all_goals (conv => whnf)
        all_goals exact EndN.setB (by simp [Blk.below, belowL, below]) trivial (Wk.of_eq (by simp; try omega))
    | false =>
      simp only [Bool.false_eq_true, if_false]
      by_cases h4 : n ≤ 4 ∧ bf = true
      · obtain ⟨h4, rfl⟩ := h4
        rw [if_pos ⟨h4, rfl⟩]
        refine fn_gen Tryz.E0 Tryz.mx Tryz.func173 (by kernel_rfl) rfl (Nat.le_of_ble_eq_true rfl) rfl fun hcl hbl => ?_
        (repeat' ((conv => whnf); (first | (refine IfN.id ?_; first | refine IfN.not ?_ | refine IfN.tt rfl ?_ | refine IfN.ff rfl ?_ | refine IfN.dT (by omega) ?_ | fail) | (refine EqN.id ?_; first | (refine EqN.addN _ _ (by first | with_reducible rfl | with_reducible exact cst1 | with_reducible exact cst0 | with_reducible exact cst2 | with_reducible exact cst3 | with_reducible exact cst4 | with_reducible exact cst5 | with_reducible exact cst6 | with_reducible exact cst7 | with_reducible exact cst8 | with_reducible exact cst14 | with_reducible exact cst15 | with_reducible exact cst25 | with_reducible exact cst30 | with_reducible exact cst31 | fail) (by first | with_reducible rfl | with_reducible exact cst1 | with_reducible exact cst0 | with_reducible exact cst2 | with_reducible exact cst3 | with_reducible exact cst4 | with_reducible exact cst5 | with_reducible exact cst6 | with_reducible exact cst7 | with_reducible exact cst8 | with_reducible exact cst14 | with_reducible exact cst15 | with_reducible exact cst25 | with_reducible exact cst30 | with_reducible exact cst31 | fail) ?_ ?_; · (repeat' (first | omega | refine And.intro ?_ ?_ | exact bnd_andl (by omega) | exact bnd_andr (by omega) | refine bnd_or ?_ ?_ | refine bnd_or31 ?_ ?_ | refine bnd_xor ?_ ?_ | refine bnd_xor31 ?_ ?_ | refine bnd_shr ?_ | refine bnd_shl ?_ ?_ | refine bnd_mod ?_ | refine bnd_andl ?_ | fail))) | fail) | (refine CallN.id ?_; first | refine CallN.det _ (hf _) ?_ | fail) | refine CallN.setB i _ _ _ _ hi rfl rfl (hn _) rfl ?_ | refine CallN.setB i _ _ _ _ (at_set hi) (by simp) rfl (ht _) (List.set_set ..) ?_ | refine DrawN.mk' [] ?_ | fail))); all_goals (conv => whnf)
        all_goals exact EndN.setB (by simp [Blk.below, belowL, below]) trivial (Wk.of_eq (by simp; try omega))
      · rw [if_neg h4]
        cases bf with
        | true =>
          have h4 : ¬ n ≤ 4 := fun e => h4 ⟨e, rfl⟩
          refine fn_gen Tryz.E0 Tryz.mx Tryz.func173 (by kernel_rfl) rfl (Nat.le_of_ble_eq_true rfl) rfl fun hcl hbl => ?_
          (repeat' ((conv => whnf); (first | (refine IfN.id ?_; first | refine IfN.not ?_ | refine IfN.tt rfl ?_ | refine IfN.ff rfl ?_ | refine IfN.dF (by omega) ?_ | fail) | refine CallN.setB i _ _ _ _ hi rfl rfl (hn _) rfl ?_ | refine DrawN.mk' [] ?_ | fail))); all_goals (conv => whnf)
          all_goals exact EndN.setB (by simp [Blk.below, belowL, below]) trivial (Wk.of_eq (by simp; try omega))
        | false =>
          refine fn_gen Tryz.E0 Tryz.mx Tryz.func173 (by kernel_rfl) rfl (Nat.le_of_ble_eq_true rfl) rfl fun hcl hbl => ?_
          (repeat' ((conv => whnf); (first | (refine IfN.id ?_; first | refine IfN.not ?_ | refine IfN.tt rfl ?_ | refine IfN.ff rfl ?_ | refine IfN.dec (fun _ => ?_) (fun _ => ?_) | fail) | (refine CallN.id ?_; first | refine CallN.det _ (hf _) ?_ | fail) | refine CallN.setB i _ _ _ _ hi rfl rfl (hn _) rfl ?_ | refine DrawN.mk' [] ?_ | fail))); all_goals (conv => whnf)
          all_goals exact EndN.setB (by simp [Blk.below, belowL, below]) trivial (Wk.of_eq (by simp; try omega))
  · rw [if_pos h]
    rw [decide_eq_false h] at hn
    unfold jB at hi hn ⊢
    refine fn_gen Tryz.E0 Tryz.mx Tryz.func173 (by kernel_rfl) rfl (Nat.le_of_ble_eq_true rfl) rfl fun hcl hbl => ?_
    (repeat' ((conv => whnf); (first | (refine IfN.id ?_; first | refine IfN.not ?_ | refine IfN.ff rfl ?_ | fail) | refine CallN.setB i _ _ _ _ hi rfl rfl (hn _) rfl ?_ | refine DrawN.mk' [] ?_ | fail))); all_goals (conv => whnf)
    exact EndN.setB (by simp [Blk.below, belowL, below]) trivial (Wk.refl _)
mutual
theorem term_g : ∀ x : Tm, x.good → TermP x
  | .mk v s l, h => term_step v s l (by have := h.1; exact maxLen_le this) (terms_g l (maxLen_le h.2.1) (terms_all l h.2.2))
theorem terms_all : ∀ l : List Tm, Tm.goodL l → ∀ x ∈ l, TermP x
  | [], _, x, h => by cases h
  | y :: l, hg, x, h => by
    have h1 := term_g y hg.1
    have h2 := terms_all l hg.2
    rcases List.mem_cons.1 h with e | h
    · exact e ▸ h1
    · exact h2 x h
end
end Go.Proofs.YtjflngchbeegcaaGreatDoor.P10
/-! text SJ10z -/
namespace Go.Proofs.YtjflngchbeegcaaGreatDoor.P10
open Go.Vsi
set_option maxHeartbeats 4000000

/-! ### formulas in general -/
def encR (r : Bool × Bool × Nat × Nat × Nat) : List AV := [.bool r.1, .bool r.2.1, .int .u8 r.2.2.1, .int .i64 r.2.2.2.1, .int .i64 r.2.2.2.2]
def rowsL : List (Bool × Bool × Nat × Nat × Nat) := [(false, false, 0, 0, 0), (true, true, 1, 4, 0), (true, true, 0, 0, 0), (true, true, 0, 0, 1), (true, true, 0, 0, 2), (true, true, 0, 0, 2), (true, true, 0, 0, 2), (true, true, 0, 0, 2), (true, true, 2, 0, 1), (true, true, 2, 0, 1), (true, true, 0, 0, 1), (true, true, 0, 0, 1), (true, true, 0, 0, 1), (true, true, 0, 0, 1), (true, true, 0, 0, 2), (false, true, 3, 0, 0), (false, true, 3, 2, 0)]
def row0 : Bool × Bool × Nat × Nat × Nat := (false, false, 0, 0, 0)
def rowK (op : Nat) : Bool := (rowsL.getD op row0).1
def rowN (op : Nat) : Nat := (rowsL.getD op row0).2.2.1
def rowA (op : Nat) : Nat := (rowsL.getD op row0).2.2.2.1
def rowS (op : Nat) : Nat := (rowsL.getD op row0).2.2.2.2
theorem row_ok : ∀ op, op < 17 → (rowsL.getD op row0).1 = true → (rowN op = 0 ∨ rowN op = 1 ∨ rowN op = 2) ∧ op ≠ 16 ∧ rowA op ≤ 4 ∧ rowS op ≤ 2 := by decide
def emptyB (s : ByteArray) : Bool := s.toList == ByteArray.empty.toList
def nameOk (k : Nat) (s : ByteArray) : Bool := if k = 1 then isPred s else if k = 2 then isVar s else emptyB s
mutual
def jF (d : Nat) : Fo → Int → Int × Bool
  | .mk op s l m, L => if ¬ (1 ≤ L ∧ d ≤ 40) ∨ 17 ≤ op then (L - 1, false) else if rowK op = false then (L - 1, false) else if ¬ (nameOk (rowN op) s = true ∧ l.length ≤ rowA op ∧ m.length = rowS op) then (L - 1, false) else
    if (jTs (d + 1) l (L - 1)).2 then jFs (d + 1) m (jTs (d + 1) l (L - 1)).1 else ((jTs (d + 1) l (L - 1)).1, false)
def jFs (d : Nat) : List Fo → Int → Int × Bool
  | [], L => (L, true)
  | x :: l, L => if (jF d x L).2 then jFs d l (jF d x L).1 else ((jF d x L).1, false)
end
theorem jFs_nil (d : Nat) (L : Int) : jFs d [] L = (L, true) := by unfold jFs; rfl
theorem jFs_cons (d : Nat) (x : Fo) (l : List Fo) (L : Int) : jFs d (x :: l) L = if (jF d x L).2 then jFs d l (jF d x L).1 else ((jF d x L).1, false) := by rw [jFs.eq_def]
mutual
theorem jF_bd (d : Nat) : ∀ (x : Fo) (L : Int), 0 ≤ L → -1 ≤ (jF d x L).1 ∧ (jF d x L).1 ≤ L ∧ ((jF d x L).2 = true → 0 ≤ (jF d x L).1)
  | .mk op s l m, L, h => by
    unfold jF
    split
    · exact ⟨by simp only; omega, by simp only; omega, fun h => by cases h⟩
    · rename_i h1
      split
      · exact ⟨by simp only; omega, by simp only; omega, fun h => by cases h⟩
      · split
        · exact ⟨by simp only; omega, by simp only; omega, fun h => by cases h⟩
        · have ht := jTs_bd (d + 1) l (L - 1) (by omega)
          split
          · rename_i hb
            have := jFs_bd (d + 1) m _ (ht.2.2 hb)
            exact ⟨this.1, by omega, this.2.2⟩
          · exact ⟨ht.1, by simp only; omega, fun h => by cases h⟩
theorem jFs_bd (d : Nat) : ∀ (l : List Fo) (L : Int), 0 ≤ L → -1 ≤ (jFs d l L).1 ∧ (jFs d l L).1 ≤ L ∧ ((jFs d l L).2 = true → 0 ≤ (jFs d l L).1)
  | [], L, h => by rw [jFs_nil]; exact ⟨by simp only; omega, by simp only; omega, fun _ => h⟩
  | x :: l, L, h => by
    have h1 := jF_bd d x L h
    rw [jFs_cons]
    split
    · rename_i hb
      have h2 := jFs_bd d l _ (h1.2.2 hb)
      exact ⟨h2.1, by omega, h2.2.2⟩
    · exact ⟨h1.1, h1.2.1, fun h => by cases h⟩
end
theorem SegN.eq0 {l l' : List AV} {o : Nat} {k : List AV → Prop} (h : l = l') (a : SegN l' o k) : SegN l o k := h ▸ a
theorem fo_size : ∀ x : Fo, x.cells.length = 4
  | .mk op s l m => by rw [Fo.cells_mk]; rfl
attribute [local irreducible] VW VCall VO bits
mutual
theorem tm_below (n : Nat) : ∀ x : Tm, belowL n x.cells
  | .mk v s l => by
    rw [Tm.cells_mk]
    have := tms_below n l
    simp [belowL, below, this]
theorem tms_below (n : Nat) : ∀ l : List Tm, belowL n (l.flatMap Tm.cells)
  | [] => trivial
  | x :: l => by
    rw [List.flatMap_cons]
    exact (belowL_append _ _).2 ⟨tm_below n x, tms_below n l⟩
end
mutual
theorem fo_below (n : Nat) : ∀ x : Fo, belowL n x.cells
  | .mk op s l m => by
    rw [Fo.cells_mk]
    have := tms_below n l
    have := fos_below n m
    simp [belowL, below, *]
theorem fos_below (n : Nat) : ∀ l : List Fo, belowL n (l.flatMap Fo.cells)
  | [] => trivial
  | x :: l => by
    rw [List.flatMap_cons]
    exact (belowL_append _ _).2 ⟨fo_below n x, fos_below n l⟩
end
theorem named_g (k : Nat) (hk : k = 0 ∨ k = 1 ∨ k = 2) (s : ByteArray) (hs : s.size ≤ 9223372036854775807) (H : Heap) : VDet Tryz.prog 160 [.int .u8 k, .str s] H (.bool (nameOk k s)) := by
  have hp := predicate_g s hs
  have hv := variable_g s hs
  have he : (s.toList == ByteArray.empty.toList) = emptyB s := rfl
  unfold nameOk
  rcases hk with rfl | rfl | rfl
  · simp only [show ¬ (0 : Nat) = 1 by decide, show ¬ (0 : Nat) = 2 by decide, if_false]
    refine fn_det Tryz.E0 Tryz.mx Tryz.func160 (by kernel_rfl) rfl (Nat.le_of_ble_eq_true rfl) rfl fun hcl hbl => ?_
    (repeat' ((conv => whnf); (first | (refine IfN.id ?_; first | refine IfN.ff rfl ?_ | fail) | refine DrawN.mk' [] ?_ | fail))); all_goals (conv => whnf)
    exact EndN.det trivial (Wk.of_eq (by rw [← he]; rfl))
  · simp only [if_true]
    refine fn_det Tryz.E0 Tryz.mx Tryz.func160 (by kernel_rfl) rfl (Nat.le_of_ble_eq_true rfl) rfl fun hcl hbl => ?_
    (repeat' ((conv => whnf); (first | (refine IfN.id ?_; first | refine IfN.tt rfl ?_ | fail) | (refine CallN.id ?_; first | refine CallN.det _ (hp _) ?_ | fail) | refine DrawN.mk' [] ?_ | fail))); all_goals (conv => whnf)
    exact EndN.det trivial (Wk.refl _)
  · simp only [show ¬ (2 : Nat) = 1 by decide, if_false, if_true]
    refine fn_det Tryz.E0 Tryz.mx Tryz.func160 (by kernel_rfl) rfl (Nat.le_of_ble_eq_true rfl) rfl fun hcl hbl => ?_
    (repeat' ((conv => whnf); (first | (refine IfN.id ?_; first | refine IfN.tt rfl ?_ | refine IfN.ff rfl ?_ | fail) | (refine CallN.id ?_; first | refine CallN.det _ (hv _) ?_ | fail) | refine DrawN.mk' [] ?_ | fail))); all_goals (conv => whnf)
    exact EndN.det trivial (Wk.refl _)
theorem rows_eq : (Tryz.gl[1]).2 = rowsL.flatMap encR := by kernel_rfl
def FormP (x : Fo) : Prop := ∀ (H : Heap) (i : Nat) (L : Int) (d : Nat), H[i]? = some (jB L) → 0 ≤ L ∧ L ≤ 400 → d ≤ 41 → VCall Tryz.prog 139 [.ptr i 0, .agg x.cells, .int .i64 d] H (setR H i (jB (jF d x L).1) (.bool (jF d x L).2))
theorem form_step (op : Nat) (s : ByteArray) (l : List Tm) (m : List Fo) (hop : op ≤ 255) (hs : s.size ≤ 9223372036854775807) (hll : l.length ≤ 9223372036854775807) (hml : m.length ≤ 9223372036854775807) (hl : TermsP l) (hm : ∀ x ∈ m, FormP x) : FormP (.mk op s l m) := by
  intro H i L d hi hL hd
  have hn := fun X => node_g (H ++ X) i L d (at_base' hi) hL hd
  rw [Fo.cells_mk]
  unfold jF
  by_cases h : ¬ (1 ≤ L ∧ d ≤ 40) ∨ 17 ≤ op
  · rw [if_pos h]
    by_cases h1 : 1 ≤ L ∧ d ≤ 40
    · rw [decide_eq_true h1] at hn
      have h17 : 17 ≤ op := by omega
      generalize l.flatMap Tm.cells = lc at *
      generalize m.flatMap Fo.cells = mc at *
      unfold jB at hi hn ⊢
      refine fn_gen Tryz.E0 Tryz.mx Tryz.func139 (by kernel_rfl) rfl (Nat.le_of_ble_eq_true rfl) rfl fun hcl hbl => ?_
      (repeat' ((conv => whnf); (first | (refine IfN.id ?_; first | refine IfN.not ?_ | refine IfN.tt rfl ?_ | refine IfN.dT (by omega) ?_ | fail) | (refine EqN.id ?_; first | refine EqN.i64 (by omega) ?_ | fail) | refine CallN.setB i _ _ _ _ hi rfl rfl (hn _) rfl ?_ | refine DrawN.mk' [] ?_ | fail))); all_goals (conv => whnf)
      exact EndN.setB (by simp [Blk.below, belowL, below]) trivial (Wk.refl _)
    · rw [decide_eq_false h1] at hn
      generalize l.flatMap Tm.cells = lc at *
      generalize m.flatMap Fo.cells = mc at *
      unfold jB at hi hn ⊢
      refine fn_gen Tryz.E0 Tryz.mx Tryz.func139 (by kernel_rfl) rfl (Nat.le_of_ble_eq_true rfl) rfl fun hcl hbl => ?_
      (repeat' ((conv => whnf); (first | (refine IfN.id ?_; first | refine IfN.not ?_ | refine IfN.ff rfl ?_ | fail) | refine CallN.setB i _ _ _ _ hi rfl rfl (hn _) rfl ?_ | refine DrawN.mk' [] ?_ | fail))); all_goals (conv => whnf)
      exact EndN.setB (by simp [Blk.below, belowL, below]) trivial (Wk.refl _)
  · rw [if_neg h]
    have h1 : 1 ≤ L ∧ d ≤ 40 := by omega
    have h17 : op < 17 := by omega
    rw [decide_eq_true h1] at hn
    have hrow := row_ok op h17
    have hname := fun (hk : rowN op = 0 ∨ rowN op = 1 ∨ rowN op = 2) => named_g (rowN op) hk s hs
    have hrc : encR (rowsL.getD op row0) = [.bool (rowK op), .bool (rowsL.getD op row0).2.1, .int .u8 (rowN op), .int .i64 (rowA op), .int .i64 (rowS op)] := rfl
    have hrk : (rowsL.getD op row0).1 = rowK op := rfl
    rw [hrk] at hrow
    have ht := fun X => hl (H.set i (jB (L - 1)) ++ X) i (L - 1) (d + 1) (at_base' (at_set hi)) (by omega) (by omega)
    have htb := jTs_bd (d + 1) l (L - 1) (by omega)
    generalize (rowsL.getD op row0).2.1 = rsch at *
    generalize rowK op = rk at *
    generalize rowN op = rn at *
    generalize rowA op = ra at *
    generalize rowS op = rs at *
    generalize nameOk rn s = nok at *
    generalize hr : jTs (d + 1) l (L - 1) = r at *
    obtain ⟨M, b⟩ := r
    simp only at ht htb
    have h16 : rk = true → op ≠ 16 := fun e => (hrow e).2.1
    cases rk with
    | false =>
      rw [if_pos rfl]
      generalize l.flatMap Tm.cells = lc at *
      generalize m.flatMap Fo.cells = mc at *
      unfold jB at hi hn ⊢
      refine fn_gen Tryz.E0 Tryz.mx Tryz.func139 (by kernel_rfl) rfl (Nat.le_of_ble_eq_true rfl) rfl fun hcl hbl => ?_
      (repeat' ((conv => whnf); (first | (refine IfN.id ?_; first | refine IfN.not ?_ | refine IfN.tt rfl ?_ | refine IfN.ff rfl ?_ | refine IfN.dF (by omega) ?_ | fail) | (refine EqN.id ?_; first | refine EqN.i64 (by omega) ?_ | fail) | (refine SideN.mk ?_ ?_; · first | kernel_rfl | omega | exact List.cons_ne_nil _ _ | (simp; done) | (simp; omega) | exact trivial | assumption | fail) | refine CallN.setB i _ _ _ _ hi rfl rfl (hn _) rfl ?_ | refine SegN.eq0 rows_eq (SegN.nthE row0 op rfl h17 (fun _ => rfl) hrc ?_) | (refine PtrN.id ?_; first | refine PtrN.base _ (by (repeat' (first | assumption | exact at_loc' _ rfl | exact at_loc0 rfl | refine at_set (B' := ?_) ?_ | refine at_base' ?_ | fail))) ?_ | fail) | refine DrawN.mk' [] ?_ | fail))); all_goals (conv => whnf)
      exact EndN.setB (by simp [Blk.below, belowL, below]) trivial (Wk.refl _)
    | true =>
      simp only [Bool.true_eq_false, if_false]
      have h16 := h16 rfl
      have hname := hname (hrow rfl).1
      have hra := (hrow rfl).2.2.1
      by_cases h2 : nok = true ∧ l.length ≤ ra ∧ m.length = rs
      · rw [if_neg (not_not_intro h2)]
        obtain ⟨rfl, h3, h4⟩ := h2
        cases b with
        | false =>
          simp only [Bool.false_eq_true, if_false]
          generalize l.flatMap Tm.cells = lc at *
          generalize m.flatMap Fo.cells = mc at *
          unfold jB at hi hn ht ⊢
          refine fn_gen Tryz.E0 Tryz.mx Tryz.func139 (by kernel_rfl) rfl (Nat.le_of_ble_eq_true rfl) rfl fun hcl hbl => ?_
          (repeat' ((conv => whnf); (first | (refine IfN.id ?_; first | refine IfN.not ?_ | refine IfN.tt rfl ?_ | refine IfN.ff rfl ?_ | refine IfN.dT (by omega) ?_ | refine IfN.dF (by omega) ?_ | fail) | (refine EqN.id ?_; first | (refine EqN.addN _ _ (by first | with_reducible rfl | with_reducible exact cst1 | with_reducible exact cst0 | with_reducible exact cst2 | with_reducible exact cst3 | with_reducible exact cst4 | with_reducible exact cst5 | with_reducible exact cst6 | with_reducible exact cst7 | with_reducible exact cst8 | with_reducible exact cst14 | with_reducible exact cst15 | with_reducible exact cst25 | with_reducible exact cst30 | with_reducible exact cst31 | fail) (by first | with_reducible rfl | with_reducible exact cst1 | with_reducible exact cst0 | with_reducible exact cst2 | with_reducible exact cst3 | with_reducible exact cst4 | with_reducible exact cst5 | with_reducible exact cst6 | with_reducible exact cst7 | with_reducible exact cst8 | with_reducible exact cst14 | with_reducible exact cst15 | with_reducible exact cst25 | with_reducible exact cst30 | with_reducible exact cst31 | fail) ?_ ?_; · (repeat' (first | omega | refine And.intro ?_ ?_ | exact bnd_andl (by omega) | exact bnd_andr (by omega) | refine bnd_or ?_ ?_ | refine bnd_or31 ?_ ?_ | refine bnd_xor ?_ ?_ | refine bnd_xor31 ?_ ?_ | refine bnd_shr ?_ | refine bnd_shl ?_ ?_ | refine bnd_mod ?_ | refine bnd_andl ?_ | fail))) | refine EqN.i64 (by omega) ?_ | fail) | (refine SideN.mk ?_ ?_; · first | kernel_rfl | omega | exact List.cons_ne_nil _ _ | (simp; done) | (simp; omega) | exact trivial | assumption | fail) | (refine CallN.id ?_; first | refine CallN.det _ (hname _) ?_ | fail) | refine CallN.setB i _ _ _ _ hi rfl rfl (hn _) rfl ?_ | refine SegN.eq0 rows_eq (SegN.nthE row0 op rfl h17 (fun _ => rfl) hrc ?_) | refine CallN.setB i _ _ _ _ (at_set hi) (by simp) rfl (ht _) (List.set_set ..) ?_ | refine DrawN.mk' [] ?_ | fail))); all_goals (conv => whnf)
          exact EndN.setB (by simp [Blk.below, belowL, below]) trivial (Wk.refl _)
        | true =>
          simp only [if_true]
          have hMb := htb.2.2 rfl
          have hmc : ∀ n, belowL n (m.flatMap Fo.cells) := fun n => fos_below n m
          have hi' := hi
          unfold jB at hi hn ht
          refine fn_gen Tryz.E0 Tryz.mx Tryz.func139 (by kernel_rfl) rfl (Nat.le_of_ble_eq_true rfl) rfl fun hcl hbl => ?_
          (repeat' ((conv => whnf); (first | (refine IfN.id ?_; first | refine IfN.not ?_ | refine IfN.tt rfl ?_ | refine IfN.dT (by omega) ?_ | refine IfN.dF (by omega) ?_ | fail) | (refine EqN.id ?_; first | (refine EqN.addN _ _ (by first | with_reducible rfl | with_reducible exact cst1 | with_reducible exact cst0 | with_reducible exact cst2 | with_reducible exact cst3 | with_reducible exact cst4 | with_reducible exact cst5 | with_reducible exact cst6 | with_reducible exact cst7 | with_reducible exact cst8 | with_reducible exact cst14 | with_reducible exact cst15 | with_reducible exact cst25 | with_reducible exact cst30 | with_reducible exact cst31 | fail) (by first | with_reducible rfl | with_reducible exact cst1 | with_reducible exact cst0 | with_reducible exact cst2 | with_reducible exact cst3 | with_reducible exact cst4 | with_reducible exact cst5 | with_reducible exact cst6 | with_reducible exact cst7 | with_reducible exact cst8 | with_reducible exact cst14 | with_reducible exact cst15 | with_reducible exact cst25 | with_reducible exact cst30 | with_reducible exact cst31 | fail) ?_ ?_; · (repeat' (first | omega | refine And.intro ?_ ?_ | exact bnd_andl (by omega) | exact bnd_andr (by omega) | refine bnd_or ?_ ?_ | refine bnd_or31 ?_ ?_ | refine bnd_xor ?_ ?_ | refine bnd_xor31 ?_ ?_ | refine bnd_shr ?_ | refine bnd_shl ?_ ?_ | refine bnd_mod ?_ | refine bnd_andl ?_ | fail))) | refine EqN.i64 (by omega) ?_ | fail) | (refine SideN.mk ?_ ?_; · first | kernel_rfl | omega | exact List.cons_ne_nil _ _ | (simp; done) | (simp; omega) | exact trivial | assumption | fail) | (refine CallN.id ?_; first | refine CallN.det _ (hname _) ?_ | fail) | refine CallN.setB i _ _ _ _ hi rfl rfl (hn _) rfl ?_ | refine SegN.eq0 rows_eq (SegN.nthE row0 op rfl h17 (fun _ => rfl) hrc ?_) | refine CallN.setB i _ _ _ _ (at_set hi) (by simp) rfl (ht _) (List.set_set ..) ?_ | refine DrawN.mk' [] ?_ | fail))); all_goals (conv => whnf)
          refine loop_B Tryz.E0 Tryz.mx (σ := Nat × Int) (fun p => p.1 ≤ m.length ∧ (0 ≤ p.2 ∧ p.2 ≤ 400) ∧ jFs (d + 1) m M = jFs (d + 1) (m.drop p.1) p.2) (fun p => m.length - p.1) (fun p => [(79, .v (.int .i64 p.1))]) (fun p => H.set i (jB p.2)) (fun _ => _) _ (0, M) (fun p _ => by simp) (fun p _ => closed_set hcl i _ (jB_below _ _)) [0, 2, 77, 78] rfl ⟨Nat.zero_le _, ⟨hMb, by omega⟩, rfl⟩ ⟨⟨_, rfl, Wk.refl _⟩, trivial⟩ rfl rfl (fun _ _ => rfl) ?_
          rintro ⟨k, N⟩ ⟨hk, hN, hj⟩
          simp only at hk hN hj
          have hNl : (H.set i (jB N)).length = H.length := by simp
          by_cases hlt : k < m.length
          · have hmem := getD_memT m k (Fo.mk 0 .empty [] []) hlt
            rw [drop_getD m k (Fo.mk 0 .empty [] []) hlt] at hj
            have hx := fun X => hm _ hmem (H.set i (jB N) ++ X) i N (d + 1) (at_base' (at_set hi')) hN (by omega)
            have hbd := jF_bd (d + 1) (m.getD k (Fo.mk 0 .empty [] [])) N hN.1
            rw [jFs_cons] at hj
            obtain ⟨o2, s2, l2, m2, hxe⟩ : ∃ o2 s2 l2 m2, m.getD k (Fo.mk 0 .empty [] []) = Fo.mk o2 s2 l2 m2 := by
              cases m.getD k (Fo.mk 0 .empty [] []) with
              | mk o2 s2 l2 m2 => exact ⟨o2, s2, l2, m2, rfl⟩
            have hce : (m.getD k (Fo.mk 0 .empty [] [])).cells = [.int .u8 o2, .str s2, .sl none l2.length (l2.flatMap Tm.cells), .sl none m2.length (m2.flatMap Fo.cells)] := by rw [hxe, Fo.cells_mk]
            rw [hce] at hx
            generalize hr2 : jF (d + 1) (m.getD k (Fo.mk 0 .empty [] [])) N = r2 at *
            obtain ⟨N', b2⟩ := r2
            simp only at hx hbd hj
            generalize hB2 : jB N' = B2 at *
            cases b2 with
            | true =>
              (repeat' ((conv => whnf); (first | (refine IfN.id ?_; first | refine IfN.not ?_ | refine IfN.tt rfl ?_ | refine IfN.dT (by omega) ?_ | fail) | (refine EqN.id ?_; first | (refine EqN.addN _ _ (by first | with_reducible rfl | with_reducible exact cst1 | with_reducible exact cst0 | with_reducible exact cst2 | with_reducible exact cst3 | with_reducible exact cst4 | with_reducible exact cst5 | with_reducible exact cst6 | with_reducible exact cst7 | with_reducible exact cst8 | with_reducible exact cst14 | with_reducible exact cst15 | with_reducible exact cst25 | with_reducible exact cst30 | with_reducible exact cst31 | fail) (by first | with_reducible rfl | with_reducible exact cst1 | with_reducible exact cst0 | with_reducible exact cst2 | with_reducible exact cst3 | with_reducible exact cst4 | with_reducible exact cst5 | with_reducible exact cst6 | with_reducible exact cst7 | with_reducible exact cst8 | with_reducible exact cst14 | with_reducible exact cst15 | with_reducible exact cst25 | with_reducible exact cst30 | with_reducible exact cst31 | fail) ?_ ?_; · (repeat' (first | omega | refine And.intro ?_ ?_ | exact bnd_andl (by omega) | exact bnd_andr (by omega) | refine bnd_or ?_ ?_ | refine bnd_or31 ?_ ?_ | refine bnd_xor ?_ ?_ | refine bnd_xor31 ?_ ?_ | refine bnd_shr ?_ | refine bnd_shl ?_ ?_ | refine bnd_mod ?_ | refine bnd_andl ?_ | fail))) | fail) | (refine SideN.mk ?_ ?_; · first | kernel_rfl | omega | exact List.cons_ne_nil _ _ | (simp; done) | (simp; omega) | exact trivial | assumption | fail) | refine SegN.nthE (Fo.mk 0 .empty [] []) k rfl hlt fo_size hce ?_ | refine CallN.setB i _ _ _ _ (at_set hi') (by simp) rfl (hx _) (List.set_set ..) ?_ | refine DrawN.mk' [] ?_ | fail))); all_goals (conv => whnf)
              subst hB2
              (refine ⟨⟨(k + 1, N'), ⟨by simp only; omega, ⟨hbd.2.2 rfl, by simp only; omega⟩, by simpa using hj⟩, by omega, ?_, .inl ⟨rfl, rfl⟩, rfl, _, rfl, ?_⟩⟩; rotate_left 1; (first | exact .inl rfl | exact .inr ⟨by simp [belowRE, below, belowL, tr, tms_below, fos_below], by simp [belowH, Blk.below, belowL, below, tms_below, fos_below]⟩ | fail); (repeat' (first | exact trivial | refine ⟨⟨_, rfl, ?_⟩, ?_⟩ | fail)); all_goals try (first | exact Wk.refl _ | exact Wk.of_eq (congrArg (AV.int _) (by omega)) | fail))
            | false =>
              (repeat' ((conv => whnf); (first | (refine IfN.id ?_; first | refine IfN.not ?_ | refine IfN.ff rfl ?_ | refine IfN.dT (by omega) ?_ | fail) | (refine EqN.id ?_; first | (refine EqN.addN _ _ (by first | with_reducible rfl | with_reducible exact cst1 | with_reducible exact cst0 | with_reducible exact cst2 | with_reducible exact cst3 | with_reducible exact cst4 | with_reducible exact cst5 | with_reducible exact cst6 | with_reducible exact cst7 | with_reducible exact cst8 | with_reducible exact cst14 | with_reducible exact cst15 | with_reducible exact cst25 | with_reducible exact cst30 | with_reducible exact cst31 | fail) (by first | with_reducible rfl | with_reducible exact cst1 | with_reducible exact cst0 | with_reducible exact cst2 | with_reducible exact cst3 | with_reducible exact cst4 | with_reducible exact cst5 | with_reducible exact cst6 | with_reducible exact cst7 | with_reducible exact cst8 | with_reducible exact cst14 | with_reducible exact cst15 | with_reducible exact cst25 | with_reducible exact cst30 | with_reducible exact cst31 | fail) ?_ ?_; · (repeat' (first | omega | refine And.intro ?_ ?_ | exact bnd_andl (by omega) | exact bnd_andr (by omega) | refine bnd_or ?_ ?_ | refine bnd_or31 ?_ ?_ | refine bnd_xor ?_ ?_ | refine bnd_xor31 ?_ ?_ | refine bnd_shr ?_ | refine bnd_shl ?_ ?_ | refine bnd_mod ?_ | refine bnd_andl ?_ | fail))) | fail) | (refine SideN.mk ?_ ?_; · first | kernel_rfl | omega | exact List.cons_ne_nil _ _ | (simp; done) | (simp; omega) | exact trivial | assumption | fail) | refine SegN.nthE (Fo.mk 0 .empty [] []) k rfl hlt fo_size hce ?_ | refine CallN.setB i _ _ _ _ (at_set hi') (by simp) rfl (hx _) (List.set_set ..) ?_ | refine DrawN.mk' [] ?_ | fail))); all_goals (conv => whnf)
              subst hB2
              simp only [Bool.false_eq_true, if_false] at hj
              rw [hj]
              exact EndN.setB (jB_below _ _) trivial (Wk.refl _)
          · have hke : k = m.length := by omega
            subst hke
            rw [List.drop_length, jFs_nil] at hj
            rw [hj]
            (repeat' ((conv => whnf); (first | (refine IfN.id ?_; first | refine IfN.dF (by omega) ?_ | fail) | refine DrawN.mk' [] ?_ | fail))); all_goals (conv => whnf)
            exact EndN.setB (jB_below _ _) trivial (Wk.refl _)
      · rw [if_pos h2]
        generalize l.flatMap Tm.cells = lc at *
        generalize m.flatMap Fo.cells = mc at *
        generalize l.length = ln at *
        generalize m.length = mn at *
        unfold jB at hi hn ⊢
        cases nok with
        | false =>
          refine fn_gen Tryz.E0 Tryz.mx Tryz.func139 (by kernel_rfl) rfl (Nat.le_of_ble_eq_true rfl) rfl fun hcl hbl => ?_
          (repeat' ((conv => whnf); (first | (refine IfN.id ?_; first | refine IfN.not ?_ | refine IfN.tt rfl ?_ | refine IfN.ff rfl ?_ | refine IfN.dF (by omega) ?_ | fail) | (refine EqN.id ?_; first | refine EqN.i64 (by omega) ?_ | fail) | (refine SideN.mk ?_ ?_; · first | kernel_rfl | omega | exact List.cons_ne_nil _ _ | (simp; done) | (simp; omega) | exact trivial | assumption | fail) | (refine CallN.id ?_; first | refine CallN.det _ (hname _) ?_ | fail) | refine CallN.setB i _ _ _ _ hi rfl rfl (hn _) rfl ?_ | refine SegN.eq0 rows_eq (SegN.nthE row0 op rfl h17 (fun _ => rfl) hrc ?_) | refine DrawN.mk' [] ?_ | fail))); all_goals (conv => whnf)
          exact EndN.setB (by simp [Blk.below, belowL, below]) trivial (Wk.refl _)
        | true =>
          by_cases h3 : ln ≤ ra
          · have h4 : ¬ mn = rs := fun e => h2 ⟨rfl, h3, e⟩
            refine fn_gen Tryz.E0 Tryz.mx Tryz.func139 (by kernel_rfl) rfl (Nat.le_of_ble_eq_true rfl) rfl fun hcl hbl => ?_
            (repeat' ((conv => whnf); (first | (refine IfN.id ?_; first | refine IfN.not ?_ | refine IfN.tt rfl ?_ | refine IfN.dF (by omega) ?_ | fail) | (refine EqN.id ?_; first | refine EqN.i64 (by omega) ?_ | fail) | (refine SideN.mk ?_ ?_; · first | kernel_rfl | omega | exact List.cons_ne_nil _ _ | (simp; done) | (simp; omega) | exact trivial | assumption | fail) | (refine CallN.id ?_; first | refine CallN.det _ (hname _) ?_ | fail) | refine CallN.setB i _ _ _ _ hi rfl rfl (hn _) rfl ?_ | refine SegN.eq0 rows_eq (SegN.nthE row0 op rfl h17 (fun _ => rfl) hrc ?_) | refine DrawN.mk' [] ?_ | fail))); all_goals (conv => whnf)
            exact EndN.setB (by simp [Blk.below, belowL, below]) trivial (Wk.refl _)
          · refine fn_gen Tryz.E0 Tryz.mx Tryz.func139 (by kernel_rfl) rfl (Nat.le_of_ble_eq_true rfl) rfl fun hcl hbl => ?_
            (repeat' ((conv => whnf); (first | (refine IfN.id ?_; first | refine IfN.not ?_ | refine IfN.tt rfl ?_ | refine IfN.dT (by omega) ?_ | refine IfN.dF (by omega) ?_ | fail) | (refine EqN.id ?_; first | refine EqN.i64 (by omega) ?_ | fail) | (refine SideN.mk ?_ ?_; · first | kernel_rfl | omega | exact List.cons_ne_nil _ _ | (simp; done) | (simp; omega) | exact trivial | assumption | fail) | (refine CallN.id ?_; first | refine CallN.det _ (hname _) ?_ | fail) | refine CallN.setB i _ _ _ _ hi rfl rfl (hn _) rfl ?_ | refine SegN.eq0 rows_eq (SegN.nthE row0 op rfl h17 (fun _ => rfl) hrc ?_) | refine DrawN.mk' [] ?_ | fail))); all_goals (conv => whnf)
            exact EndN.setB (by simp [Blk.below, belowL, below]) trivial (Wk.refl _)
mutual
theorem form_g : ∀ x : Fo, x.good → FormP x
  | .mk op s l m, h => form_step op s l m h.1 (maxLen_le h.2.1) (maxLen_le h.2.2.1) (maxLen_le h.2.2.2.2.1) (terms_g l (maxLen_le h.2.2.1) (terms_all l h.2.2.2.1)) (forms_all m h.2.2.2.2.2)
theorem forms_all : ∀ l : List Fo, Fo.goodL l → ∀ x ∈ l, FormP x
  | [], _, x, h => by cases h
  | y :: l, hg, x, h => by
    have h1 := form_g y hg.1
    have h2 := forms_all l hg.2
    rcases List.mem_cons.1 h with e | h
    · exact e ▸ h1
    · exact h2 x h
end
end Go.Proofs.YtjflngchbeegcaaGreatDoor.P10
/-! text Y10z -/
namespace Go.Proofs.YtjflngchbeegcaaGreatDoor
open Go.Shelf
def Tryz.keys150_ren : Go.Shelf.Ren := ⟨fun | 7 => 150 | 10 => 169 | n => n, fun | 23 => 154 | 26 => 9 | 3 => 4 | 28 => 158 | 0 => 0 | 27 => 157 | 33 => 89 | 4 => 4 | n => n, fun | n => n⟩
theorem Tryz.keys150 : Go.Proofs.SlLaysZ.n7 Tryz.prog Tryz.keys150_ren := {
  mixed := by kernel_rfl
  f7 := ⟨Tryz.f150.name, by decide, Tryz.func150.trans (congrArg some (by kernel_rfl))⟩
  f10 := ⟨Tryz.f169.name, by decide, Tryz.func169.trans (congrArg some (by kernel_rfl))⟩
  t0 := Tryz.underlying0
  a0 := Tryz.isAgg0
  z0 := Tryz.sizeOf0
  v0 := Tryz.zeroValue0
  t4 := Tryz.underlying4
  a4 := Tryz.isAgg4
  z4 := Tryz.sizeOf4
  v4 := Tryz.zeroValue4
  t23 := Tryz.underlying154
  a23 := Tryz.isAgg154
  z23 := Tryz.sizeOf154
  v23 := Tryz.zeroValue154
  t26 := Tryz.underlying9
  a26 := Tryz.isAgg9
  z26 := Tryz.sizeOf9
  v26 := Tryz.zeroValue9
  t27 := Tryz.underlying157
  a27 := Tryz.isAgg157
  z27 := Tryz.sizeOf157
  v27 := Tryz.zeroValue157
  t28 := Tryz.underlying158
  a28 := Tryz.isAgg158
  z28 := Tryz.sizeOf158
  v28 := Tryz.zeroValue158
  t33 := Tryz.underlying89
  a33 := Tryz.isAgg89
  z33 := Tryz.sizeOf89
  v33 := Tryz.zeroValue89 }
def Tryz.sorted149_ren : Go.Shelf.Ren := ⟨fun | 6 => 149 | 8 => 167 | 9 => 168 | 11 => 178 | 13 => 180 | 12 => 179 | 23 => 193 | 24 => 194 | 14 => 184 | 15 => 185 | 16 => 186 | 17 => 187 | 18 => 188 | 19 => 189 | 20 => 190 | 21 => 191 | 22 => 192 | 25 => 197 | 26 => 198 | 27 => 199 | 28 => 200 | 29 => 201 | 30 => 202 | 31 => 203 | n => n, fun | 26 => 9 | 28 => 158 | 24 => 28 | 0 => 0 | 3 => 3 | 37 => 72 | 48 => 184 | 50 => 113 | 4 => 4 | 40 => 178 | 39 => 177 | 45 => 108 | 5 => 5 | 9 => 9 | 51 => 186 | 55 => 190 | 57 => 192 | 58 => 193 | 33 => 89 | n => n, fun | n => n⟩
theorem Tryz.sorted149 : Go.Proofs.SlLaysZ.n6 Tryz.prog Tryz.sorted149_ren := {
  mixed := by kernel_rfl
  f6 := ⟨Tryz.f149.name, by decide, Tryz.func149.trans (congrArg some (by kernel_rfl))⟩
  f8 := ⟨Tryz.f167.name, by decide, Tryz.func167.trans (congrArg some (by kernel_rfl))⟩
  f11 := ⟨Tryz.f178.name, by decide, Tryz.func178.trans (congrArg some (by kernel_rfl))⟩
  t0 := Tryz.underlying0
  a0 := Tryz.isAgg0
  z0 := Tryz.sizeOf0
  v0 := Tryz.zeroValue0
  t24 := Tryz.underlying28
  a24 := Tryz.isAgg28
  z24 := Tryz.sizeOf28
  v24 := Tryz.zeroValue28
  t26 := Tryz.underlying9
  a26 := Tryz.isAgg9
  z26 := Tryz.sizeOf9
  v26 := Tryz.zeroValue9
  t28 := Tryz.underlying158
  a28 := Tryz.isAgg158
  z28 := Tryz.sizeOf158
  v28 := Tryz.zeroValue158
  i26 := by kernel_rfl }
def Tryz.sort168_ren : Go.Shelf.Ren := ⟨fun | 6 => 168 | 8 => 180 | 9 => 179 | 19 => 193 | 20 => 194 | 21 => 184 | 22 => 185 | 23 => 186 | 24 => 187 | 25 => 188 | 26 => 189 | 27 => 190 | 28 => 191 | 29 => 192 | 36 => 197 | 31 => 198 | 32 => 199 | 37 => 200 | 38 => 201 | 39 => 202 | 41 => 203 | n => n, fun | 27 => 28 | 29 => 9 | 3 => 3 | 32 => 72 | 26 => 28 | 0 => 0 | 44 => 184 | 46 => 113 | 4 => 4 | 36 => 178 | 35 => 177 | 41 => 108 | 5 => 5 | 9 => 9 | 53 => 186 | 57 => 190 | 63 => 192 | 64 => 193 | n => n, fun | n => n⟩
theorem Tryz.sort168 : Go.Proofs.SlLaysM.n6 Tryz.prog Tryz.sort168_ren := {
  mixed := by kernel_rfl
  f6 := ⟨Tryz.f168.name, by decide, Tryz.func168.trans (congrArg some (by kernel_rfl))⟩
  f8 := Tryz.func180.trans (congrArg some (by kernel_rfl))
  f9 := ⟨Tryz.f179.name, by decide, Tryz.func179.trans (congrArg some (by kernel_rfl))⟩
  f19 := Tryz.func193.trans (congrArg some (by kernel_rfl))
  f20 := Tryz.func194.trans (congrArg some (by kernel_rfl))
  f21 := ⟨Tryz.f184.name, by decide, Tryz.func184.trans (congrArg some (by kernel_rfl))⟩
  f22 := ⟨Tryz.f185.name, by decide, Tryz.func185.trans (congrArg some (by kernel_rfl))⟩
  f23 := ⟨Tryz.f186.name, by decide, Tryz.func186.trans (congrArg some (by kernel_rfl))⟩
  f24 := ⟨Tryz.f187.name, by decide, Tryz.func187.trans (congrArg some (by kernel_rfl))⟩
  f25 := ⟨Tryz.f188.name, by decide, Tryz.func188.trans (congrArg some (by kernel_rfl))⟩
  f26 := ⟨Tryz.f189.name, by decide, Tryz.func189.trans (congrArg some (by kernel_rfl))⟩
  f27 := ⟨Tryz.f190.name, by decide, Tryz.func190.trans (congrArg some (by kernel_rfl))⟩
  f28 := ⟨Tryz.f191.name, by decide, Tryz.func191.trans (congrArg some (by kernel_rfl))⟩
  f29 := ⟨Tryz.f192.name, by decide, Tryz.func192.trans (congrArg some (by kernel_rfl))⟩
  f31 := Tryz.func198.trans (congrArg some (by kernel_rfl))
  f32 := Tryz.func199.trans (congrArg some (by kernel_rfl))
  f36 := ⟨Tryz.f197.name, by decide, Tryz.func197.trans (congrArg some (by kernel_rfl))⟩
  f37 := ⟨Tryz.f200.name, by decide, Tryz.func200.trans (congrArg some (by kernel_rfl))⟩
  f38 := ⟨Tryz.f201.name, by decide, Tryz.func201.trans (congrArg some (by kernel_rfl))⟩
  f39 := ⟨Tryz.f202.name, by decide, Tryz.func202.trans (congrArg some (by kernel_rfl))⟩
  f41 := ⟨Tryz.f203.name, by decide, Tryz.func203.trans (congrArg some (by kernel_rfl))⟩
  t0 := Tryz.underlying0
  a0 := Tryz.isAgg0
  z0 := Tryz.sizeOf0
  v0 := Tryz.zeroValue0
  t3 := Tryz.underlying3
  a3 := Tryz.isAgg3
  z3 := Tryz.sizeOf3
  v3 := Tryz.zeroValue3
  t4 := Tryz.underlying4
  a4 := Tryz.isAgg4
  z4 := Tryz.sizeOf4
  v4 := Tryz.zeroValue4
  t5 := Tryz.underlying5
  a5 := Tryz.isAgg5
  z5 := Tryz.sizeOf5
  v5 := Tryz.zeroValue5
  t9 := Tryz.underlying9
  a9 := Tryz.isAgg9
  z9 := Tryz.sizeOf9
  v9 := Tryz.zeroValue9
  t26 := Tryz.underlying28
  a26 := Tryz.isAgg28
  z26 := Tryz.sizeOf28
  v26 := Tryz.zeroValue28
  t27 := Tryz.underlying28
  a27 := Tryz.isAgg28
  z27 := Tryz.sizeOf28
  v27 := Tryz.zeroValue28
  t29 := Tryz.underlying9
  a29 := Tryz.isAgg9
  z29 := Tryz.sizeOf9
  v29 := Tryz.zeroValue9
  t32 := Tryz.underlying72
  a32 := Tryz.isAgg72
  z32 := Tryz.sizeOf72
  v32 := Tryz.zeroValue72
  t35 := Tryz.underlying177
  a35 := Tryz.isAgg177
  z35 := Tryz.sizeOf177
  v35 := Tryz.zeroValue177
  t36 := Tryz.underlying178
  a36 := Tryz.isAgg178
  z36 := Tryz.sizeOf178
  v36 := Tryz.zeroValue178
  t41 := Tryz.underlying108
  a41 := Tryz.isAgg108
  z41 := Tryz.sizeOf108
  v41 := Tryz.zeroValue108
  t44 := Tryz.underlying184
  a44 := Tryz.isAgg184
  z44 := Tryz.sizeOf184
  v44 := Tryz.zeroValue184
  t46 := Tryz.underlying113
  a46 := Tryz.isAgg113
  z46 := Tryz.sizeOf113
  v46 := Tryz.zeroValue113
  t53 := Tryz.underlying186
  a53 := Tryz.isAgg186
  z53 := Tryz.sizeOf186
  v53 := Tryz.zeroValue186
  t57 := Tryz.underlying190
  a57 := Tryz.isAgg190
  z57 := Tryz.sizeOf190
  v57 := Tryz.zeroValue190
  t63 := Tryz.underlying192
  a63 := Tryz.isAgg192
  z63 := Tryz.sizeOf192
  v63 := Tryz.zeroValue192
  t64 := Tryz.underlying193
  a64 := Tryz.isAgg193
  z64 := Tryz.sizeOf193
  v64 := Tryz.zeroValue193 }
end Go.Proofs.YtjflngchbeegcaaGreatDoor
/-! text SK10z -/
namespace Go.Proofs.YtjflngchbeegcaaGreatDoor.P10
open Go.Vsi
open Go.Maps Go.Sort Go.Shelf Go.RowKit
open Go.WideElems (Fit rg)
open Go.WideShapes (sorted_perm)
set_option maxHeartbeats 2000000
attribute [local irreducible] VW VCall VO bits
/-! ### the atoms of any formulas -/
instance baDec : DecidableEq ByteArray := fun a b => if h : a.data = b.data then isTrue (by cases a; cases b; simp only at h; rw [h]) else isFalse fun e => h (by rw [e])
def mpG (ks : List ByteArray) : Blk := .mp (ks.map fun c => .str c) (ks.map fun _ => .bool true)
def memG (c : ByteArray) (ks : List ByteArray) : Bool := ks.any fun d => decide (d = c)
theorem memG_iff (c : ByteArray) (ks : List ByteArray) : memG c ks = true ↔ c ∈ ks := by
  unfold memG
  rw [List.any_eq_true]
  exact ⟨fun ⟨d, hd, e⟩ => of_decide_eq_true e ▸ hd, fun h => ⟨c, h, decide_eq_true rfl⟩⟩
def insG (ks : List ByteArray) (c : ByteArray) : List ByteArray := if memG c ks = true then ks else ks ++ [c]
mutual
def addG (ks : List ByteArray) : Fo → List ByteArray
  | .mk op s _ m => addGs (if op = 1 then insG ks s else ks) m
def addGs (ks : List ByteArray) : List Fo → List ByteArray
  | [] => ks
  | x :: l => addGs (addG ks x) l
end
theorem addGs_nil (ks : List ByteArray) : addGs ks [] = ks := by unfold addGs; rfl
theorem addGs_cons (ks : List ByteArray) (x : Fo) (l : List Fo) : addGs ks (x :: l) = addGs (addG ks x) l := by rw [addGs.eq_def]
theorem mpG_below (n : Nat) (ks : List ByteArray) : (mpG ks).below n := by
  simp only [mpG, Blk.below]
  refine ⟨?_, ?_⟩
  · induction ks with
    | nil => trivial
    | cons c l ih => exact ⟨trivial, ih⟩
  · induction ks with
    | nil => trivial
    | cons c l ih => exact ⟨trivial, ih⟩
theorem ba_eq {a b : ByteArray} (h : a.toList = b.toList) : a = b := by
  rw [ByteArray.toList_eq, ByteArray.toList_eq] at h
  cases a
  cases b
  congr 1
  exact Array.toList_inj.1 h
theorem ba_beq (a b : ByteArray) : (a.toList == b.toList) = decide (a = b) := by
  apply Bool.eq_iff_iff.2
  rw [beq_iff_eq, decide_eq_true_eq]
  exact ⟨ba_eq, fun h => by rw [h]⟩
theorem mfindG (c : ByteArray) : ∀ ks : List ByteArray, (c ∈ ks → ∃ j, j < ks.length ∧ ks[j]? = some c ∧ mfind (eqV Tryz.kn Tryz.T 20 9) (.str c) (ks.map fun c => .str c) = some (some j)) ∧ (c ∉ ks → mfind (eqV Tryz.kn Tryz.T 20 9) (.str c) (ks.map fun c => .str c) = some none)
  | [] => ⟨fun h => by simp at h, fun _ => rfl⟩
  | d :: ks => by
    have he : eqV Tryz.kn Tryz.T 20 9 (.str c) (.str d) = some (decide (c = d)) := by
      show some (c.toList == d.toList) = _
      rw [ba_beq]
    obtain ⟨h1, h2⟩ := mfindG c ks
    simp only [List.map_cons, mfind, he]
    by_cases hcd : c = d
    · subst hcd
      simp only [decide_true]
      exact ⟨fun _ => ⟨0, by simp, rfl, rfl⟩, fun h => absurd (List.mem_cons_self) h⟩
    · have hb : decide (c = d) = false := by simpa using hcd
      simp only [hb]
      refine ⟨fun h => ?_, fun h => ?_⟩
      · obtain ⟨j, e1, e2, e3⟩ := h1 ((List.mem_cons.1 h).resolve_left hcd)
        exact ⟨j + 1, by simpa using e1, by simpa using e2, by rw [e3]⟩
      · rw [h2 fun q => h (List.mem_cons_of_mem _ q)]
theorem putG (c : ByteArray) (ks : List ByteArray) : MPut (eqV Tryz.kn Tryz.T 20 9) (ks.map fun c => .str c) (ks.map fun _ => .bool true) (.str c) (.bool true) ((insG ks c).map fun c => .str c) ((insG ks c).map fun _ => .bool true) := by
  obtain ⟨h1, h2⟩ := mfindG c ks
  unfold insG
  by_cases h : c ∈ ks
  · rw [if_pos ((memG_iff c ks).2 h)]
    obtain ⟨j, e1, e2, e3⟩ := h1 h
    have := MPut.old (vs := ks.map fun _ => AV.bool true) (v := .bool true) j e3 (by rw [List.getElem?_map, e2]; rfl)
    have hs : (ks.map fun _ => AV.bool true).set j (.bool true) = ks.map fun _ => .bool true := by
      apply List.ext_getElem?
      intro i
      rw [List.getElem?_set]
      split
      · rename_i hi
        subst hi
        simp [e1]
      · rfl
    rwa [hs] at this
  · rw [if_neg fun e => h ((memG_iff c ks).1 e)]
    have := MPut.new (vs := ks.map fun _ => AV.bool true) (v := .bool true) (h2 h)
    simpa using this
def AddP (x : Fo) : Prop := ∀ (H : Heap) (i : Nat) (ks : List ByteArray), H[i]? = some (mpG ks) → VCall Tryz.prog 148 [.agg x.cells, .mp i] H (setR H i (mpG (addG ks x)) (.tup []))
theorem add_step (op : Nat) (s : ByteArray) (l : List Tm) (m : List Fo) (hml : m.length ≤ 9223372036854775807) (hm : ∀ x ∈ m, AddP x) : AddP (.mk op s l m) := by
  intro H i ks hi
  rw [Fo.cells_mk]
  unfold addG
  by_cases h1 : op = 1
  · subst h1
    rw [if_pos rfl]
    have hi0 := hi
    unfold mpG at hi
    refine fn_gen Tryz.E0 Tryz.mx Tryz.func148 (by kernel_rfl) rfl (Nat.le_of_ble_eq_true rfl) rfl fun hcl hbl => ?_
    (repeat' ((conv => whnf); (first | (refine IfN.id ?_; first | refine IfN.tt rfl ?_ | fail) | (refine PtrN.id ?_; first | refine PtrN.base _ (by (repeat' (first | assumption | exact at_loc' _ rfl | exact at_loc0 rfl | refine at_set (B' := ?_) ?_ | refine at_base' ?_ | fail))) ?_ | fail) | refine DrawN.mk' [] ?_ | fail))); all_goals (conv => whnf)
    refine RelN.mk _ _ ⟨⟨_, rfl⟩, putG s ks⟩ ?_
    (repeat' ((conv => whnf); (first | refine SetN.mk _ rfl ?_ | refine DrawN.mk' [] ?_ | fail))); all_goals (conv => whnf)
    refine loop_B Tryz.E0 Tryz.mx (σ := Nat × List ByteArray) (fun p => p.1 ≤ m.length ∧ addGs (insG ks s) m = addGs p.2 (m.drop p.1)) (fun p => m.length - p.1) (fun p => [(15, .v (.int .i64 p.1))]) (fun p => H.set i (mpG p.2)) (fun _ => _) _ (0, (insG ks s)) (fun p _ => by simp) (fun p _ => closed_set hcl i _ (mpG_below _ _)) [1, 13, 14] rfl ⟨Nat.zero_le _, rfl⟩ ⟨⟨_, rfl, Wk.refl _⟩, trivial⟩ rfl rfl (fun _ _ => rfl) ?_
    rintro ⟨k, N⟩ ⟨hk, hj⟩
    simp only at hk hj
    have hNl : (H.set i (mpG N)).length = H.length := by simp
    by_cases hlt : k < m.length
    · have hmem := getD_memT m k (Fo.mk 0 .empty [] []) hlt
      rw [drop_getD m k (Fo.mk 0 .empty [] []) hlt, addGs_cons] at hj
      have hx := fun X => hm _ hmem (H.set i (mpG N) ++ X) i N (at_base' (at_set hi0))
      obtain ⟨o2, s2, l2, m2, hxe⟩ : ∃ o2 s2 l2 m2, m.getD k (Fo.mk 0 .empty [] []) = Fo.mk o2 s2 l2 m2 := by
        cases m.getD k (Fo.mk 0 .empty [] []) with
        | mk o2 s2 l2 m2 => exact ⟨o2, s2, l2, m2, rfl⟩
      have hce : (m.getD k (Fo.mk 0 .empty [] [])).cells = [.int .u8 o2, .str s2, .sl none l2.length (l2.flatMap Tm.cells), .sl none m2.length (m2.flatMap Fo.cells)] := by rw [hxe, Fo.cells_mk]
      rw [hce] at hx
      generalize hr2 : addG N (m.getD k (Fo.mk 0 .empty [] [])) = N' at *
      generalize hB2 : mpG N' = B2 at *
      (repeat' ((conv => whnf); (first | (refine IfN.id ?_; first | refine IfN.dT (by omega) ?_ | fail) | (refine EqN.id ?_; first | (refine EqN.addN _ _ (by first | with_reducible rfl | with_reducible exact cst1 | with_reducible exact cst0 | with_reducible exact cst2 | with_reducible exact cst3 | with_reducible exact cst4 | with_reducible exact cst5 | with_reducible exact cst6 | with_reducible exact cst7 | with_reducible exact cst8 | with_reducible exact cst14 | with_reducible exact cst15 | with_reducible exact cst25 | with_reducible exact cst30 | with_reducible exact cst31 | fail) (by first | with_reducible rfl | with_reducible exact cst1 | with_reducible exact cst0 | with_reducible exact cst2 | with_reducible exact cst3 | with_reducible exact cst4 | with_reducible exact cst5 | with_reducible exact cst6 | with_reducible exact cst7 | with_reducible exact cst8 | with_reducible exact cst14 | with_reducible exact cst15 | with_reducible exact cst25 | with_reducible exact cst30 | with_reducible exact cst31 | fail) ?_ ?_; · (repeat' (first | omega | refine And.intro ?_ ?_ | exact bnd_andl (by omega) | exact bnd_andr (by omega) | refine bnd_or ?_ ?_ | refine bnd_or31 ?_ ?_ | refine bnd_xor ?_ ?_ | refine bnd_xor31 ?_ ?_ | refine bnd_shr ?_ | refine bnd_shl ?_ ?_ | refine bnd_mod ?_ | refine bnd_andl ?_ | fail))) | fail) | (refine SideN.mk ?_ ?_; · first | kernel_rfl | omega | exact List.cons_ne_nil _ _ | (simp; done) | (simp; omega) | exact trivial | assumption | fail) | refine SegN.nthE (Fo.mk 0 .empty [] []) k rfl hlt fo_size hce ?_ | refine CallN.setB i _ _ _ _ (at_set hi0) (by simp) rfl (hx _) (List.set_set ..) ?_ | refine DrawN.mk' [] ?_ | fail))); all_goals (conv => whnf)
      subst hB2
      (refine ⟨⟨(k + 1, N'), ⟨by simp only; omega, hj⟩, by omega, ?_, .inl ⟨rfl, rfl⟩, rfl, _, rfl, ?_⟩⟩; rotate_left 1; (first | exact .inl rfl | exact .inr ⟨by simp [belowRE, below, belowL, tr, tms_below, fos_below], by simp [belowH, Blk.below, belowL, below, tms_below, fos_below]⟩ | fail); (repeat' (first | exact trivial | refine ⟨⟨_, rfl, ?_⟩, ?_⟩ | fail)); all_goals try (first | exact Wk.refl _ | exact Wk.of_eq (congrArg (AV.int _) (by omega)) | fail))
    · have hke : k = m.length := by omega
      subst hke
      rw [List.drop_length, addGs_nil] at hj
      rw [hj]
      (repeat' ((conv => whnf); (first | (refine IfN.id ?_; first | refine IfN.dF (by omega) ?_ | fail) | refine DrawN.mk' [] ?_ | fail))); all_goals (conv => whnf)
      exact EndN.setB (mpG_below _ _) trivial (Wk.refl _)
  · rw [if_neg h1]
    have hi0 := hi
    refine fn_gen Tryz.E0 Tryz.mx Tryz.func148 (by kernel_rfl) rfl (Nat.le_of_ble_eq_true rfl) rfl fun hcl hbl => ?_
    (repeat' ((conv => whnf); (first | (refine IfN.id ?_; first | refine IfN.dF (by omega) ?_ | fail) | refine DrawN.mk' [] ?_ | fail))); all_goals (conv => whnf)
    refine loop_B Tryz.E0 Tryz.mx (σ := Nat × List ByteArray) (fun p => p.1 ≤ m.length ∧ addGs ks m = addGs p.2 (m.drop p.1)) (fun p => m.length - p.1) (fun p => [(15, .v (.int .i64 p.1))]) (fun p => H.set i (mpG p.2)) (fun _ => _) _ (0, ks) (fun p _ => by simp) (fun p _ => closed_set hcl i _ (mpG_below _ _)) [1, 13, 14] rfl ⟨Nat.zero_le _, rfl⟩ ⟨⟨_, rfl, Wk.refl _⟩, trivial⟩ (set_self hi0).symm rfl (fun _ _ => rfl) ?_
    rintro ⟨k, N⟩ ⟨hk, hj⟩
    simp only at hk hj
    have hNl : (H.set i (mpG N)).length = H.length := by simp
    by_cases hlt : k < m.length
    · have hmem := getD_memT m k (Fo.mk 0 .empty [] []) hlt
      rw [drop_getD m k (Fo.mk 0 .empty [] []) hlt, addGs_cons] at hj
      have hx := fun X => hm _ hmem (H.set i (mpG N) ++ X) i N (at_base' (at_set hi0))
      obtain ⟨o2, s2, l2, m2, hxe⟩ : ∃ o2 s2 l2 m2, m.getD k (Fo.mk 0 .empty [] []) = Fo.mk o2 s2 l2 m2 := by
        cases m.getD k (Fo.mk 0 .empty [] []) with
        | mk o2 s2 l2 m2 => exact ⟨o2, s2, l2, m2, rfl⟩
      have hce : (m.getD k (Fo.mk 0 .empty [] [])).cells = [.int .u8 o2, .str s2, .sl none l2.length (l2.flatMap Tm.cells), .sl none m2.length (m2.flatMap Fo.cells)] := by rw [hxe, Fo.cells_mk]
      rw [hce] at hx
      generalize hr2 : addG N (m.getD k (Fo.mk 0 .empty [] [])) = N' at *
      generalize hB2 : mpG N' = B2 at *
      (repeat' ((conv => whnf); (first | (refine IfN.id ?_; first | refine IfN.dT (by omega) ?_ | fail) | (refine EqN.id ?_; first | (refine EqN.addN _ _ (by first | with_reducible rfl | with_reducible exact cst1 | with_reducible exact cst0 | with_reducible exact cst2 | with_reducible exact cst3 | with_reducible exact cst4 | with_reducible exact cst5 | with_reducible exact cst6 | with_reducible exact cst7 | with_reducible exact cst8 | with_reducible exact cst14 | with_reducible exact cst15 | with_reducible exact cst25 | with_reducible exact cst30 | with_reducible exact cst31 | fail) (by first | with_reducible rfl | with_reducible exact cst1 | with_reducible exact cst0 | with_reducible exact cst2 | with_reducible exact cst3 | with_reducible exact cst4 | with_reducible exact cst5 | with_reducible exact cst6 | with_reducible exact cst7 | with_reducible exact cst8 | with_reducible exact cst14 | with_reducible exact cst15 | with_reducible exact cst25 | with_reducible exact cst30 | with_reducible exact cst31 | fail) ?_ ?_; · (repeat' (first | omega | refine And.intro ?_ ?_ | exact bnd_andl (by omega) | exact bnd_andr (by omega) | refine bnd_or ?_ ?_ | refine bnd_or31 ?_ ?_ | refine bnd_xor ?_ ?_ | refine bnd_xor31 ?_ ?_ | refine bnd_shr ?_ | refine bnd_shl ?_ ?_ | refine bnd_mod ?_ | refine bnd_andl ?_ | fail))) | fail) | (refine SideN.mk ?_ ?_; · first | kernel_rfl | omega | exact List.cons_ne_nil _ _ | (simp; done) | (simp; omega) | exact trivial | assumption | fail) | refine SegN.nthE (Fo.mk 0 .empty [] []) k rfl hlt fo_size hce ?_ | refine CallN.setB i _ _ _ _ (at_set hi0) (by simp) rfl (hx _) (List.set_set ..) ?_ | refine DrawN.mk' [] ?_ | fail))); all_goals (conv => whnf)
      subst hB2
      (refine ⟨⟨(k + 1, N'), ⟨by simp only; omega, hj⟩, by omega, ?_, .inl ⟨rfl, rfl⟩, rfl, _, rfl, ?_⟩⟩; rotate_left 1; (first | exact .inl rfl | exact .inr ⟨by simp [belowRE, below, belowL, tr, tms_below, fos_below], by simp [belowH, Blk.below, belowL, below, tms_below, fos_below]⟩ | fail); (repeat' (first | exact trivial | refine ⟨⟨_, rfl, ?_⟩, ?_⟩ | fail)); all_goals try (first | exact Wk.refl _ | exact Wk.of_eq (congrArg (AV.int _) (by omega)) | fail))
    · have hke : k = m.length := by omega
      subst hke
      rw [List.drop_length, addGs_nil] at hj
      rw [hj]
      (repeat' ((conv => whnf); (first | (refine IfN.id ?_; first | refine IfN.dF (by omega) ?_ | fail) | refine DrawN.mk' [] ?_ | fail))); all_goals (conv => whnf)
      exact EndN.setB (mpG_below _ _) trivial (Wk.refl _)
mutual
theorem add_g : ∀ x : Fo, x.good → AddP x
  | .mk op s l m, h => add_step op s l m (maxLen_le h.2.2.2.2.1) (adds_g m h.2.2.2.2.2)
theorem adds_g : ∀ l : List Fo, Fo.goodL l → ∀ x ∈ l, AddP x
  | [], _, x, h => by cases h
  | y :: l, hg, x, h => by
    have h1 := add_g y hg.1
    have h2 := adds_g l hg.2
    rcases List.mem_cons.1 h with e | h
    · exact e ▸ h1
    · exact h2 x h
end
end Go.Proofs.YtjflngchbeegcaaGreatDoor.P10
/-! text SL10z -/
namespace Go.Proofs.YtjflngchbeegcaaGreatDoor.P10
open Go.Vsi
open Go.Maps Go.Sort Go.Shelf Go.RowKit
open Go.WideElems (Fit rg)
open Go.WideShapes (sorted_perm)

def encSG (s : ByteArray) : List AV := [.str s]
theorem encSG_below (n : Nat) (l : List ByteArray) : belowL n (l.flatMap encSG) := belowL_flat _ fun x => by simp [encSG, belowL, below]
/-! ### the sorted keys of a set of names -/
theorem sorts35g (m : Nat) : AnyZ.SortsIn Tryz.prog Tryz.sorted149_ren Fence.wide m :=
  ⟨fun blk off cap ss W hH hblk hsz => callsIn_wide.2 (AnyM.slices_Sort_string Tryz.sort168 blk off cap ss W hH hblk hsz),
   fun p cap W => callsIn_wide.2 (AnyM.slices_Sort_string_none Tryz.sort168 p cap W)⟩
def sortG (ks : List ByteArray) : List ByteArray := ks.mergeSort (fun a b => decide (a.data.toList ≤ b.data.toList))
theorem ext_belowG {g : G} {w w' : World} (h : Below w.heap.size w w') : Ext g w g w' :=
  ⟨Nat.le_refl _, fun _ _ h => h, fun _ h => h, fun _ _ => rfl, fun _ _ => .inl rfl, fun _ _ _ h => h, h.os, h.tape, h.output, h.size, fun b hb _ => h.block b hb, fun b cs t fz hb => ⟨cs, by rw [h.block b (lt_size hb)]; exact hb, rfl, fun _ _ => rfl⟩⟩
theorem keys_ofG {g : G} {w : World} : ∀ {ks : List ByteArray} {l : List Value}, LRel g w (ks.map fun c => .str c) l → l = ks.map fun c => .string c
  | [], _, h => by simpa [LRel] using h
  | c :: ks, _, h => by
    simp only [List.map_cons, LRel] at h
    obtain ⟨v, r, rfl, h1, h2⟩ := h
    simp only [VRel] at h1
    subst h1
    rw [keys_ofG h2]
    rfl
def keyBG : Value → List UInt8
  | .string s => s.data.toList
  | _ => []
def anyRG (_ : Value) : Option (DataW Unit × List MemPlace) := some (.nil, [])
theorem own_ofG {g : G} {w : World} {b : Nat} {es : Array MapEntry} {clk : Nat} {ks : List ByteArray} (hb : w.heap[b]? = some (.map es clk)) (hclk : clk = es.size) (hbn : ∀ (j : Nat) e, es[j]? = some e → e.born = j)
    (hk : LRel g w (ks.map fun c => .str c) (es.toList.map (·.key))) (hn : ks.Nodup) (hl : ks.length ≤ 100000) (hsz : ∀ c ∈ ks, c.size ≤ maxLen) : ∃ D0 : DataW Unit, w.ownsMap Tryz.prog 9 anyRG b ks.length D0 ∧ (strKeys D0).Perm (ks.map fun c => c.data.toList) ∧ Maps.size D0 = ks.length := by
  have hk := keys_ofG hk
  have hlen : es.size = ks.length := by
    have := congrArg List.length hk
    simpa using this
  have hu : Tryz.prog.underlying 9 = some .string := Tryz.underlying9
  have hkey : ∀ x ∈ es.toList, ∃ c ∈ ks, x.key = .string c := fun x hx => by
    have : x.key ∈ es.toList.map (·.key) := List.mem_map.2 ⟨x, hx, rfl⟩
    rw [hk] at this
    obtain ⟨c, hc, e⟩ := List.mem_map.1 this
    exact ⟨c, hc, e.symm⟩
  have hrd : ∀ x ∈ es.toList, ∀ c, x.key = .string c → Go.WideElems.rd Tryz.prog 9 anyRG x = some (.string (c.data.toList), .nil) := fun x hx c hc => by
    unfold Go.WideElems.rd keyOf
    rw [hu, hc]
    simp only [mapKey, hu]
    rw [if_pos (by obtain ⟨c', h1, h2⟩ := hkey x hx; rw [hc] at h2; cases h2; exact hsz c h1)]
    rfl
  refine ⟨_, ⟨es, clk, hb, ⟨by rw [hlen]; simp only [maxLen]; omega, ⟨fun x hx => ?_, ?_, ?_⟩, fun x hx => ?_⟩, by omega, rfl⟩, ?_, ?_⟩
  · obtain ⟨j, hj⟩ := List.getElem?_of_mem hx
    rw [Array.getElem?_toList] at hj
    have h1 := hbn j x hj
    have := (Array.getElem?_eq_some_iff.1 hj).1
    omega
  · have : es.toList.map (·.born) = List.range es.size := by
      apply List.ext_getElem?
      intro j
      rw [List.getElem?_map, Array.getElem?_toList]
      by_cases hj : j < es.size
      · rw [Array.getElem?_eq_getElem hj, List.getElem?_range hj]
        simp [hbn j _ (Array.getElem?_eq_getElem hj)]
      · rw [Array.getElem?_eq_none (by omega), List.getElem?_eq_none (by simpa using hj)]
        rfl
    rw [this]
    exact List.nodup_range
  · rw [hk]
    exact List.pairwise_map.2 (hn.imp fun {a b} hab e => hab (by simpa using e))
  · obtain ⟨c, -, hc⟩ := hkey x hx
    exact ⟨_, hrd x hx c hc⟩
  · have h1 : (es.toList.map (rg Tryz.prog 9 anyRG)).map (fun p => strOf p.1) = ks.map fun c => c.data.toList := by
      refine (List.map_map ..).trans ((List.map_congr_left (g := fun x => keyBG x.key) fun x hx => ?_).trans ?_)
      · obtain ⟨c, -, hc⟩ := hkey x hx
        simp only [Function.comp]
        unfold rg
        rw [hrd x hx c hc, hc]
        rfl
      have h3 : es.toList.map (fun x => keyBG x.key) = (es.toList.map (·.key)).map keyBG := by rw [List.map_map]; rfl
      rw [h3, hk, List.map_map]
      rfl
    rw [← h1]
    exact (sorted_perm _).map _
  · show (((es.toList.map (rg Tryz.prog 9 anyRG)).foldr DataW.insert []).length) = _
    rw [(sorted_perm _).length_eq]
    simp [hlen]
theorem sort_ofG {ks : List ByteArray} {ss : List (List UInt8)} (h : ss.Perm (ks.map fun c => c.data.toList)) : (ss.mergeSort fun x y => decide (x ≤ y)) = (sortG ks).map fun c => c.data.toList := by
  refine (mergeSort_of_perm h).trans ?_
  unfold sortG
  refine (List.map_mergeSort (f := fun c : ByteArray => c.data.toList) (r := fun a b => decide (a.data.toList ≤ b.data.toList)) (s := leB) (l := ks) fun a _ b _ => ?_).symm
  rfl
theorem sortedG_c (H : Heap) (i p : Nat) (ks : List ByteArray) (hi : H[i]? = some (mpG ks)) (hp : H[p]? = some (.box 154 [.mp i])) (hn : ks.Nodup) (hl : ks.length ≤ 100000) (hsz : ∀ c ∈ ks, c.size ≤ maxLen) :
    VDet Tryz.prog 149 [.clo (.func 169) [] [.ptr p 0]] H (.sl none ks.length ((sortG ks).flatMap encSG)) := by
  refine ⟨⟨_, Tryz.func149, by kernel_rfl, rfl⟩, fun g w xs hH hL => ?_⟩
  obtain ⟨c, r, has, hc, hr⟩ := hL
  simp only [LRel] at hr
  subst hr
  simp only [VRel, fnG] at hc
  obtain ⟨-, f', c', rfl, hf, hc'⟩ := hc
  simp only [LRel, VRel] at hf hc'
  obtain ⟨q, r, hcl, ⟨-, rfl⟩, rfl⟩ := hc'
  have hf : f' = #[] := by simpa using congrArg List.toArray hf
  have hcl : c' = #[.pointer (some ⟨g.blk p, 0, none⟩)] := by simpa using congrArg List.toArray hcl
  have has : xs = #[.func (.func 169) f' c'] := by simpa using congrArg List.toArray has
  subst has hf hcl
  -- the map
  obtain ⟨es, clk, hb, ⟨hclk, hbn⟩, hk, -, -⟩ := hH.rel i _ (by simpa [Hp.all, Hp.of] using hi)
  obtain ⟨D0, hown, hperm, hsize⟩ := own_ofG hb hclk hbn hk hn hl hsz
  -- its box
  obtain ⟨cs, hcs, hcr, -⟩ := hH.rel p _ (by simpa [Hp.all, Hp.of] using hp)
  simp only [LRel, VRel] at hcr
  obtain ⟨q, r, hcr, ⟨-, rfl⟩, rfl⟩ := hcr
  have hcr : cs = #[.map (some (g.blk i))] := by simpa using congrArg List.toArray hcr
  subst hcr
  have hseq : SeqGives Fence.wide 2 Tryz.prog 169 #[.pointer (some ⟨g.blk p, 0, none⟩)] encStr (fun ss => ss.Perm (strKeys D0)) (Maps.size D0) w :=
    AnyZ.keys_gives (ρ := Tryz.keys150_ren) { Tryz.keys150 with } Fence.wide _ trivial rfl (by omega) (g.blk p) (g.blk i) ks.length D0 w (lt_size hcs) (cell_iff.2 ⟨_, _, _, hcs, rfl⟩) hown
  have hcall := AnyZ.sorted_in Tryz.sorted149 Fence.wide 5 trivial trivial trivial trivial rfl (by omega) (sorts35g _) (enters_of Tryz.func168 (by kernel_rfl) rfl) _ #[.pointer (some ⟨g.blk p, 0, none⟩)] trivial (enters_of Tryz.func169 (by kernel_rfl) rfl) _ _ (by rw [hsize]; unfold maxLen; omega) (by rw [hsize]; omega) w hseq
  change CallsIn _ _ Tryz.prog 149 _ _ _ at hcall
  refine (callsIn_wide.1 hcall).mono ?_
  rintro e w' ⟨v, ss, rfl, hS, hrow, hnil, hbel⟩
  have hsort := sort_ofG (hS.trans hperm)
  have hlen : ss.length = ks.length := by rw [(hS.trans hperm).length_eq]; simp
  rw [hsort] at hrow
  have hx : Ext g w g w' := ext_belowG hbel
  refine ⟨_, _, g, v, rfl, ⟨rfl, rfl⟩, hH.keepAll hx fun b hb => hbel.block b hb, ?_, hx⟩
  have henc : ((sortG ks).map fun c => c.data.toList).map encStr = (sortG ks).map fun c => .string c := by
    rw [List.map_map]; rfl
  rw [henc, hlen] at hrow
  simp only [VRel]
  rcases hrow.2 with ⟨rfl, h0⟩ | ⟨gb, cap, cur, rfl, hbase, hgb, h1, h2, h3, h4⟩
  · have : sortG ks = [] := by
      apply List.eq_nil_of_length_eq_zero
      have := hrow.1
      simp at this
      omega
    rw [this, h0]
    exact ⟨none, 0, rfl, Nat.le_refl _, .inl rfl, fun t e => by cases e⟩
  · refine ⟨_, cap, rfl, h1, .inr ⟨gb, 0, rfl, MRel.mk fun j u hj => ?_⟩, fun t e => by cases e⟩
    have hfm : (sortG ks).flatMap encSG = (sortG ks).map fun c => .str c := by
      exact List.map_eq_flatMap.symm
    rw [hfm, List.getElem?_map] at hj
    obtain ⟨c, hc, rfl⟩ := Option.map_eq_some_iff.1 hj
    refine ⟨.string c, cell_iff.2 ⟨cur, _, _, hgb, ?_⟩, by simp [VRel], fun ho => ?_⟩
    · have h5 := congrArg (fun l => l[j]?) h4
      simp only [List.getElem?_map, hc, Option.map_some] at h5
      rw [List.getElem?_take] at h5
      split at h5
      · simpa using h5
      · cases h5
    · have := hH.lt _ _ ho
      omega
end Go.Proofs.YtjflngchbeegcaaGreatDoor.P10
/-! text SM10z -/
namespace Go.Proofs.YtjflngchbeegcaaGreatDoor.P10
open Go.Vsi
set_option maxHeartbeats 2000000
attribute [local irreducible] VW VCall VO bits
/-! ### truth.Atoms of any formulas -/
theorem mpG_belowK (n : Nat) : ∀ ks : List ByteArray, belowL n (ks.map fun c => .str c)
  | [] => trivial
  | _ :: l => ⟨trivial, mpG_belowK n l⟩
theorem mpG_belowV (n : Nat) : ∀ ks : List ByteArray, belowL n (ks.map fun _ => .bool true)
  | [] => trivial
  | _ :: l => ⟨trivial, mpG_belowV n l⟩
def namesG (l : List Fo) : List ByteArray := sortG (addGs [] l)
theorem insG_nodup {ks : List ByteArray} (h : ks.Nodup) (c : ByteArray) : (insG ks c).Nodup := by
  unfold insG
  split
  · exact h
  · rename_i hc
    refine List.nodup_append.2 ⟨h, by simp, fun a ha b hb e => ?_⟩
    simp only [List.mem_singleton] at hb
    exact hc ((memG_iff c ks).2 (hb ▸ e ▸ ha))
mutual
theorem addG_nodup : ∀ (f : Fo) {ks : List ByteArray}, ks.Nodup → (addG ks f).Nodup
  | .mk op s l m, ks, h => by
    unfold addG
    refine addGs_nodup m ?_
    split
    · exact insG_nodup h s
    · exact h
theorem addGs_nodup : ∀ (l : List Fo) {ks : List ByteArray}, ks.Nodup → (addGs ks l).Nodup
  | [], ks, h => by rw [addGs_nil]; exact h
  | f :: l, ks, h => by rw [addGs_cons]; exact addGs_nodup l (addG_nodup f h)
end
theorem insG_size {ks : List ByteArray} (h : ∀ c ∈ ks, c.size ≤ maxLen) {c : ByteArray} (hc : c.size ≤ maxLen) : ∀ d ∈ insG ks c, d.size ≤ maxLen := by
  intro d hd
  unfold insG at hd
  split at hd
  · exact h d hd
  · rcases List.mem_append.1 hd with hd | hd
    · exact h d hd
    · simp only [List.mem_singleton] at hd
      exact hd ▸ hc
mutual
theorem addG_size : ∀ (f : Fo) {ks : List ByteArray}, f.good → (∀ c ∈ ks, c.size ≤ maxLen) → ∀ c ∈ addG ks f, c.size ≤ maxLen
  | .mk op s l m, ks, hg, h => by
    unfold addG
    refine addGs_size m hg.2.2.2.2.2 ?_
    split
    · exact insG_size h hg.2.1
    · exact h
theorem addGs_size : ∀ (l : List Fo) {ks : List ByteArray}, Fo.goodL l → (∀ c ∈ ks, c.size ≤ maxLen) → ∀ c ∈ addGs ks l, c.size ≤ maxLen
  | [], ks, _, h => by rw [addGs_nil]; exact h
  | f :: l, ks, hg, h => by rw [addGs_cons]; exact addGs_size l hg.2 (addG_size f hg.1 h)
end
theorem addGs_take (l : List Fo) (d : Fo) : ∀ (ks : List ByteArray) (j : Nat), j < l.length → addG (addGs ks (l.take j)) (l.getD j d) = addGs ks (l.take (j + 1)) := by
  induction l with
  | nil => intro ks j hj; simp at hj
  | cons f l ih =>
    intro ks j hj
    cases j with
    | zero => simp [addGs_cons, addGs_nil]
    | succ j =>
      simp only [List.length_cons] at hj
      simp only [List.take_succ_cons, addGs_cons, List.getD_cons_succ]
      exact ih _ _ (by omega)
theorem keysG_c (H : Heap) (i : Nat) : VCall Tryz.prog 150 [.mp i] H (fun r H' => r = .clo (.func 169) [] [.ptr (H.length + 0) 0] ∧ H' = H ++ [.box 154 [.mp i]]) := by
  refine fn_gen Tryz.E0 Tryz.mx Tryz.func150 (by kernel_rfl) rfl (Nat.le_of_ble_eq_true rfl) rfl fun hcl hbl => ?_
  (repeat' ((conv => whnf); (first | refine DrawN.mk' [] ?_ | fail))); all_goals (conv => whnf)
  exact EndN.keep _ (Wk.refl _) ⟨rfl, rfl⟩
theorem atoms_g (l : List Fo) (hg : Fo.goodL l) (hlen : l.length ≤ 9223372036854775807) (hn : (addGs [] l).length ≤ 100000) (H : Heap) : VDet Tryz.prog 126 [.sl none l.length (l.flatMap Fo.cells)] H (.sl none (namesG l).length ((namesG l).flatMap encSG)) := by
  refine fn_det Tryz.E0 Tryz.mx Tryz.func126 (by kernel_rfl) rfl (Nat.le_of_ble_eq_true rfl) rfl fun hcl hbl => ?_
  (repeat' ((conv => whnf); (first | refine DrawN.mk' [] ?_ | fail))); all_goals (conv => whnf)
  refine loop_R Tryz.E0 Tryz.mx (σ := Nat) (fun j => j ≤ l.length) (fun j => l.length - j) (fun j => [(9, .v (.int .i64 j))]) (fun j => [mpG (addGs [] (l.take j))]) _ 0 rfl hcl [3, 7, 8] rfl (Nat.zero_le _) ⟨⟨_, rfl, Wk.refl _⟩, trivial⟩ (by rw [List.take_zero, addGs_nil]; rfl) (fun _ _ => rfl) ?_
  intro j hj
  clear hbl
  by_cases hlt : j < l.length
  · have hmem := getD_memT l j (Fo.mk 0 .empty [] []) hlt
    have h34 : ∀ (X : Heap), VCall Tryz.prog 148 [.agg (l.getD j (Fo.mk 0 .empty [] [])).cells, .mp (H.length + 0)] (H ++ (mpG (addGs [] (l.take j)) :: X)) (setR (H ++ (mpG (addGs [] (l.take j)) :: X)) (H.length + 0) (mpG (addGs [] (l.take (j + 1)))) (.tup [])) := fun X => by
      rw [← addGs_take l (Fo.mk 0 .empty [] []) [] j hlt]
      exact adds_g l hg _ hmem _ _ _ (by simp)
    obtain ⟨o2, s2, l2, m2, hxe⟩ : ∃ o2 s2 l2 m2, l.getD j (Fo.mk 0 .empty [] []) = Fo.mk o2 s2 l2 m2 := by
      cases l.getD j (Fo.mk 0 .empty [] []) with
      | mk o2 s2 l2 m2 => exact ⟨o2, s2, l2, m2, rfl⟩
    have hce : (l.getD j (Fo.mk 0 .empty [] [])).cells = [.int .u8 o2, .str s2, .sl none l2.length (l2.flatMap Tm.cells), .sl none m2.length (m2.flatMap Fo.cells)] := by rw [hxe, Fo.cells_mk]
    rw [hce] at h34
    (repeat' ((conv => whnf); (first | (refine IfN.id ?_; first | refine IfN.dT (by omega) ?_ | fail) | (refine EqN.id ?_; first | (refine EqN.addN _ _ (by first | with_reducible rfl | with_reducible exact cst1 | with_reducible exact cst0 | with_reducible exact cst2 | with_reducible exact cst3 | with_reducible exact cst4 | with_reducible exact cst5 | with_reducible exact cst6 | with_reducible exact cst7 | with_reducible exact cst8 | with_reducible exact cst14 | with_reducible exact cst15 | with_reducible exact cst25 | with_reducible exact cst30 | with_reducible exact cst31 | fail) (by first | with_reducible rfl | with_reducible exact cst1 | with_reducible exact cst0 | with_reducible exact cst2 | with_reducible exact cst3 | with_reducible exact cst4 | with_reducible exact cst5 | with_reducible exact cst6 | with_reducible exact cst7 | with_reducible exact cst8 | with_reducible exact cst14 | with_reducible exact cst15 | with_reducible exact cst25 | with_reducible exact cst30 | with_reducible exact cst31 | fail) ?_ ?_; · (repeat' (first | omega | refine And.intro ?_ ?_ | exact bnd_andl (by omega) | exact bnd_andr (by omega) | refine bnd_or ?_ ?_ | refine bnd_or31 ?_ ?_ | refine bnd_xor ?_ ?_ | refine bnd_xor31 ?_ ?_ | refine bnd_shr ?_ | refine bnd_shl ?_ ?_ | refine bnd_mod ?_ | refine bnd_andl ?_ | fail))) | fail) | (refine SideN.mk ?_ ?_; · first | kernel_rfl | omega | exact List.cons_ne_nil _ _ | (simp; done) | (simp; omega) | exact trivial | assumption | fail) | refine SegN.nthE (Fo.mk 0 .empty [] []) j rfl hlt fo_size hce ?_ | refine CallN.setL 0 _ _ _ rfl rfl (h34 _) rfl ?_ | refine DrawN.mk' [] ?_ | fail))); all_goals (conv => whnf)
    unfold mpG
    (refine ⟨⟨j + 1, by omega, by omega, ?_, .inl ⟨rfl, rfl⟩, rfl, _, rfl, ?_⟩⟩; rotate_left 1; (first | exact .inl rfl | exact .inr ⟨by simp [belowRE, below, belowL, tr, tms_below, fos_below, encSG_below, mpG_belowK, mpG_belowV], by simp [belowH, Blk.below, belowL, below, tms_below, fos_below, encSG_below, mpG_belowK, mpG_belowV]⟩ | fail); (repeat' (first | exact trivial | refine ⟨⟨_, rfl, ?_⟩, ?_⟩ | fail)); all_goals try (first | exact Wk.refl _ | exact Wk.of_eq (congrArg (AV.int _) (by omega)) | fail))
  · obtain rfl : j = l.length := by omega
    rw [List.take_length]
    have hs : (namesG l).length = (addGs [] l).length := by unfold namesG sortG; exact List.length_mergeSort _
    have h35 := sortedG_c (H ++ [mpG (addGs [] l), .box 154 [.mp (H.length + 0)]]) (H.length + 0) ((H ++ [mpG (addGs [] l)]).length + 0) (addGs [] l) (by simp) (by simp) (addGs_nodup l List.nodup_nil) hn (addGs_size l hg fun c h => by simp at h)
    rw [← hs] at h35
    unfold namesG at hs ⊢
    (repeat' ((conv => whnf); (first | (refine IfN.id ?_; first | refine IfN.dF (by omega) ?_ | fail) | (refine CallN.id ?_; first | refine CallN.det _ (h35) ?_ | fail) | refine CallN.grow _ _ _ 2 (keysG_c _ _) rfl rfl rfl ?_ | refine DrawN.mk' [] ?_ | fail))); all_goals (conv => whnf)
    exact EndN.det ⟨fun _ e => (nomatch e), encSG_below _ _⟩ (Wk.refl _)
end Go.Proofs.YtjflngchbeegcaaGreatDoor.P10
/-! text SN10z -/
namespace Go.Proofs.YtjflngchbeegcaaGreatDoor.P10
open Go.Vsi
set_option maxHeartbeats 2000000
attribute [local irreducible] VW VCall VO bits
/-! ### syntax.Right, propositional and truth.Right of any formula -/
def synR (f : Fo) : Bool := (jF 1 f 400).2
theorem synRight_g' (f : Fo) (hg : f.good) (H : Heap) : VDet Tryz.prog 100 [.agg f.cells] H (.bool (synR f)) := by
  have h1 := form_g f hg (H ++ [.box 50 f.cells, jB 400]) (H.length + 1) 400 1 (at_loc0 rfl) ⟨by omega, by omega⟩ (by omega)
  unfold synR
  generalize hr : jF 1 f 400 = r at *
  obtain ⟨M, b⟩ := r
  simp only at h1 ⊢
  generalize hB : jB M = B at *
  unfold jB at h1
  obtain ⟨op, s, l, m⟩ := f
  rw [Fo.cells_mk] at h1 ⊢
  refine fn_det Tryz.E0 Tryz.mx Tryz.func100 (by kernel_rfl) rfl (Nat.le_of_ble_eq_true rfl) rfl fun hcl hbl => ?_
  (repeat' ((conv => whnf); (first | refine CallN.setL 1 _ _ _ rfl rfl h1 rfl ?_ | refine DrawN.mk' [] ?_ | fail))); all_goals (conv => whnf)
  exact EndN.det trivial (Wk.refl _)
mutual
def propF : Fo → Bool
  | .mk op _ l m => decide (1 ≤ op ∧ op ≤ 7 ∧ l.length = 0) && propFs m
def propFs : List Fo → Bool
  | [] => true
  | x :: l => propF x && propFs l
end
theorem propFs_all : ∀ l : List Fo, propFs l = l.all propF
  | [] => by unfold propFs; rfl
  | x :: l => by
    rw [propFs.eq_def]
    simp only
    rw [List.all_cons, propFs_all l]
def PropP (x : Fo) : Prop := ∀ H, VDet Tryz.prog 147 [.agg x.cells] H (.bool (propF x))
theorem prop_step (op : Nat) (s : ByteArray) (l : List Tm) (m : List Fo) (hop : op ≤ 255) (hll : l.length ≤ 9223372036854775807) (hml : m.length ≤ 9223372036854775807) (hm : ∀ x ∈ m, PropP x) : PropP (.mk op s l m) := by
  intro H
  rw [Fo.cells_mk]
  unfold propF
  rw [propFs_all]
  by_cases h : 1 ≤ op ∧ op ≤ 7 ∧ l.length = 0
  · rw [decide_eq_true h, Bool.true_and]
    obtain ⟨h1, h2, h3⟩ := h
    refine fn_det Tryz.E0 Tryz.mx Tryz.func147 (by kernel_rfl) rfl (Nat.le_of_ble_eq_true rfl) rfl fun hcl hbl => ?_
    (repeat' ((conv => whnf); (first | (refine IfN.id ?_; first | refine IfN.dF (by omega) ?_ | fail) | refine DrawN.mk' [] ?_ | fail))); all_goals (conv => whnf)
    refine loop_R Tryz.E0 Tryz.mx (σ := Nat) (fun j => j ≤ m.length ∧ ∀ i, i < j → propF (m.getD i (Fo.mk 0 .empty [] [])) = true) (fun j => m.length - j) (fun j => [(22, .v (.int .i64 j))]) (fun _ => _) _ 0 rfl hcl [20, 21] rfl ⟨Nat.zero_le _, fun i hi => by omega⟩ ⟨⟨_, rfl, Wk.refl _⟩, trivial⟩ rfl (fun _ _ => rfl) ?_
    rintro j ⟨hj, hall⟩
    clear hbl
    by_cases hlt : j < m.length
    · have hmem := getD_memT m j (Fo.mk 0 .empty [] []) hlt
      have hx := hm _ hmem
      unfold PropP at hx
      obtain ⟨o2, s2, l2, m2, hxe⟩ : ∃ o2 s2 l2 m2, m.getD j (Fo.mk 0 .empty [] []) = Fo.mk o2 s2 l2 m2 := by
        cases m.getD j (Fo.mk 0 .empty [] []) with
        | mk o2 s2 l2 m2 => exact ⟨o2, s2, l2, m2, rfl⟩
      have hce : (m.getD j (Fo.mk 0 .empty [] [])).cells = [.int .u8 o2, .str s2, .sl none l2.length (l2.flatMap Tm.cells), .sl none m2.length (m2.flatMap Fo.cells)] := by rw [hxe, Fo.cells_mk]
      rw [hce] at hx
      cases hb : propF (m.getD j (Fo.mk 0 .empty [] [])) with
      | true =>
        rw [hb] at hx
        (repeat' ((conv => whnf); (first | (refine IfN.id ?_; first | refine IfN.not ?_ | refine IfN.tt rfl ?_ | refine IfN.dT (by omega) ?_ | fail) | (refine EqN.id ?_; first | (refine EqN.addN _ _ (by first | with_reducible rfl | with_reducible exact cst1 | with_reducible exact cst0 | with_reducible exact cst2 | with_reducible exact cst3 | with_reducible exact cst4 | with_reducible exact cst5 | with_reducible exact cst6 | with_reducible exact cst7 | with_reducible exact cst8 | with_reducible exact cst14 | with_reducible exact cst15 | with_reducible exact cst25 | with_reducible exact cst30 | with_reducible exact cst31 | fail) (by first | with_reducible rfl | with_reducible exact cst1 | with_reducible exact cst0 | with_reducible exact cst2 | with_reducible exact cst3 | with_reducible exact cst4 | with_reducible exact cst5 | with_reducible exact cst6 | with_reducible exact cst7 | with_reducible exact cst8 | with_reducible exact cst14 | with_reducible exact cst15 | with_reducible exact cst25 | with_reducible exact cst30 | with_reducible exact cst31 | fail) ?_ ?_; · (repeat' (first | omega | refine And.intro ?_ ?_ | exact bnd_andl (by omega) | exact bnd_andr (by omega) | refine bnd_or ?_ ?_ | refine bnd_or31 ?_ ?_ | refine bnd_xor ?_ ?_ | refine bnd_xor31 ?_ ?_ | refine bnd_shr ?_ | refine bnd_shl ?_ ?_ | refine bnd_mod ?_ | refine bnd_andl ?_ | fail))) | fail) | (refine SideN.mk ?_ ?_; · first | kernel_rfl | omega | exact List.cons_ne_nil _ _ | (simp; done) | (simp; omega) | exact trivial | assumption | fail) | (refine CallN.id ?_; first | refine CallN.det _ (hx _) ?_ | fail) | refine SegN.nthE (Fo.mk 0 .empty [] []) j rfl hlt fo_size hce ?_ | refine DrawN.mk' [] ?_ | fail))); all_goals (conv => whnf)
        (refine ⟨⟨j + 1, ⟨by omega, fun i hi => by
          by_cases e : i = j
          · rw [e]; exact hb
          · exact hall i (by omega)⟩, by omega, ?_, .inl ⟨rfl, rfl⟩, rfl, _, rfl, ?_⟩⟩; rotate_left 1; (first | exact .inl rfl | exact .inr ⟨by simp [belowRE, below, belowL, tr, tms_below, fos_below], by simp [belowH, Blk.below, belowL, below, tms_below, fos_below]⟩ | fail); (repeat' (first | exact trivial | refine ⟨⟨_, rfl, ?_⟩, ?_⟩ | fail)); all_goals try (first | exact Wk.refl _ | exact Wk.of_eq (congrArg (AV.int _) (by omega)) | fail))
      | false =>
        rw [hb] at hx
        (repeat' ((conv => whnf); (first | (refine IfN.id ?_; first | refine IfN.not ?_ | refine IfN.ff rfl ?_ | refine IfN.dT (by omega) ?_ | fail) | (refine SideN.mk ?_ ?_; · first | kernel_rfl | omega | exact List.cons_ne_nil _ _ | (simp; done) | (simp; omega) | exact trivial | assumption | fail) | (refine CallN.id ?_; first | refine CallN.det _ (hx _) ?_ | fail) | refine SegN.nthE (Fo.mk 0 .empty [] []) j rfl hlt fo_size hce ?_ | refine DrawN.mk' [] ?_ | fail))); all_goals (conv => whnf)
        have : m.all propF = false := by
          apply Bool.eq_false_iff.2
          intro hA
          rw [List.all_eq_true.1 hA _ hmem] at hb
          cases hb
        rw [this]
        exact EndN.det trivial (Wk.refl _)
    · have : m.all propF = true := by
        rw [List.all_eq_true]
        intro x hx
        obtain ⟨i, hi, rfl⟩ := List.getElem_of_mem hx
        have := hall i (by omega)
        rwa [show m.getD i (Fo.mk 0 .empty [] []) = m[i] by simp [List.getD_eq_getElem?_getD, hi]] at this
      rw [this]
      (repeat' ((conv => whnf); (first | (refine IfN.id ?_; first | refine IfN.dF (by omega) ?_ | fail) | refine DrawN.mk' [] ?_ | fail))); all_goals (conv => whnf)
      exact EndN.det trivial (Wk.refl _)
  · rw [decide_eq_false h, Bool.false_and]
    generalize l.flatMap Tm.cells = lc at *
    generalize m.flatMap Fo.cells = mc at *
    generalize l.length = ln at *
    generalize m.length = mn at *
    refine fn_det Tryz.E0 Tryz.mx Tryz.func147 (by kernel_rfl) rfl (Nat.le_of_ble_eq_true rfl) rfl fun hcl hbl => ?_
    (repeat' ((conv => whnf); (first | (refine IfN.id ?_; first | refine IfN.dT (by omega) ?_ | refine IfN.dec (fun _ => ?_) (fun _ => ?_) | fail) | refine DrawN.mk' [] ?_ | fail))); all_goals (conv => whnf)
    all_goals exact EndN.det trivial (Wk.refl _)
mutual
theorem prop_g : ∀ x : Fo, x.good → PropP x
  | .mk op s l m, h => prop_step op s l m h.1 (maxLen_le h.2.2.1) (maxLen_le h.2.2.2.2.1) (props_g m h.2.2.2.2.2)
theorem props_g : ∀ l : List Fo, Fo.goodL l → ∀ x ∈ l, PropP x
  | [], _, x, h => by cases h
  | y :: l, hg, x, h => by
    have h1 := prop_g y hg.1
    have h2 := props_g l hg.2
    rcases List.mem_cons.1 h with e | h
    · exact e ▸ h1
    · exact h2 x h
end
def rightF (f : Fo) : Bool := synR f && propF f
theorem right_g' (f : Fo) (hg : f.good) (H : Heap) : VDet Tryz.prog 124 [.agg f.cells] H (.bool (rightF f)) := by
  have h1 := synRight_g' f hg
  have h2 := prop_g f hg
  unfold PropP at h2
  unfold rightF
  generalize synR f = a at *
  generalize propF f = b at *
  obtain ⟨op, s, l, m⟩ := f
  rw [Fo.cells_mk] at h1 h2 ⊢
  cases a with
  | true =>
    refine fn_det Tryz.E0 Tryz.mx Tryz.func124 (by kernel_rfl) rfl (Nat.le_of_ble_eq_true rfl) rfl fun hcl hbl => ?_
    (repeat' ((conv => whnf); (first | (refine IfN.id ?_; first | refine IfN.tt rfl ?_ | fail) | (refine CallN.id ?_; first | refine CallN.det _ (h1 _) ?_ | refine CallN.det _ (h2 _) ?_ | fail) | refine DrawN.mk' [] ?_ | fail))); all_goals (conv => whnf)
    exact EndN.det trivial (Wk.refl _)
  | false =>
    refine fn_det Tryz.E0 Tryz.mx Tryz.func124 (by kernel_rfl) rfl (Nat.le_of_ble_eq_true rfl) rfl fun hcl hbl => ?_
    (repeat' ((conv => whnf); (first | (refine IfN.id ?_; first | refine IfN.ff rfl ?_ | fail) | (refine CallN.id ?_; first | refine CallN.det _ (h1 _) ?_ | fail) | refine DrawN.mk' [] ?_ | fail))); all_goals (conv => whnf)
    exact EndN.det trivial (Wk.refl _)
end Go.Proofs.YtjflngchbeegcaaGreatDoor.P10
