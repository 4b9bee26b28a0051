/- A text of the proof: the parts BT41, DZ41. -/
import Derived.ProofKit
import Derived.LaidMore
import Derived.OpenShut
import Derived.Test.YtgdmldelijeaoaaGreatDoorK12
set_option linter.unusedSimpArgs false
set_option linter.unusedVariables false
/-! text BT41 -/
namespace Go.Proofs.YtgdmldelijeaoaaGreatDoor
open Go.Vsi
set_option maxHeartbeats 8000000
set_option linter.unusedSimpArgs false
attribute [local irreducible] VW VCall VO bits
theorem wrong_law (k:Nat) (hk:k≤255) (w:Nat→Nat) (hw:∀ i,w i≤65535) (l:List Nat) (hl:l.length≤9223372036854775807) (hb:∀ i,i<l.length→l.getD i 0≤255) (wh:Nat) (hwh:wh≤255) (nn:Int) (hnn:-9223372036854775808≤nn∧nn≤9223372036854775807) (H:Heap) :
  VDet Tryz.prog 11 [.int .u8 (k:Nat),.agg (cW w),.sl none l.length (l.flatMap encB),.int .u8 (wh:Nat),.int .i64 nn] H (.bool true):=by
 have hMd:=fun H=>made_c k hk w hw H
 have hBl:=fun H=>built15_c l hl hb H
 have hn:=madN_le k
 have hsm:(mad k w).Sm:=madW_sm (madN k) hn w
 have hnm:(mad k w).Nm:=madW_nm (madN k) w
 have hva:validM (mad k w)=true:=madW_valid (madN k) hn w
 have hal:HasAll (mad k w):=madW_all (madN k) w
 have hgd:=blt_gd l
 generalize bltF l=p at hBl hgd
 have hpg:=hgd.sm.good
 have hpr:=hgd.right
 have hPm:=fun H=>perm_s (madN k) wh hn hwh H
 have hPl:=permN_len (madN k) wh hn
 -- the structure with one defect
 have bad:∀ K S L t0 t2 q y a0,badC K S L t0 t2 q y a0 (madN k)→q.size≤100→y.size≤100→∃ m:Mdl,m.Sm∧m.Nm∧validM m=false∧m.cells=[.int .u8 K,.int .i64 S,.sl none 0 [],.int .i64 L,.sl none 3 (bdF t0 (w 1 % 2:Nat) t2 q),.sl none 2 ((madW (madN k) w).funcs.flatMap Fnc.cells),.sl none 3 (bdB a0 (w 6 % madN k:Nat) (w 7 % madN k:Nat) y)]:=fun K S L t0 t2 q y a0 h h1 h2=>⟨badM K S L t0 t2 q y a0 (madN k) w,bad_sm hn,bad_nm h1 h2,bad_no h,rfl⟩
 have hfq:=fqx_eq p
 -- what is asked of it
 have c18:∀ K S L t0 t2 q y a0 (H:Heap) (i j s s':Nat),H[i]? = some (.box 95 (bdF t0 (w 1 % 2:Nat) t2 q++List.replicate s .junk))→H[j]? = some (.box 99 (bdB a0 (w 6 % madN k:Nat) (w 7 % madN k:Nat) y++List.replicate s' .junk))→badC K S L t0 t2 q y a0 (madN k)→q.size≤100→y.size≤100→VDet Tryz.prog 18 [bdA K S L ((madW (madN k) w).funcs.flatMap Fnc.cells) i j,.agg (fqx p)] H (.tup [.bool false,.int .i64 2]):=fun K S L t0 t2 q y a0 H i j s s' hi hj h h1 h2=>lendW (fun H=>by
  obtain ⟨m,m1,m2,m3,m4⟩:=bad K S L t0 t2 q y a0 h h1 h2
  rw [← m4,← hfq]
  exact eval_bad m m1 m2 p.fo hpg (.inl m3) H) rfl H i j s s' hi hj
 have c58:∀ K S L t0 t2 q y a0 (H:Heap) (i j s s':Nat),H[i]? = some (.box 95 (bdF t0 (w 1 % 2:Nat) t2 q++List.replicate s .junk))→H[j]? = some (.box 99 (bdB a0 (w 6 % madN k:Nat) (w 7 % madN k:Nat) y++List.replicate s' .junk))→badC K S L t0 t2 q y a0 (madN k)→q.size≤100→y.size≤100→VDet Tryz.prog 58 [bdA K S L ((madW (madN k) w).funcs.flatMap Fnc.cells) i j,.agg (tqx (bTm wh))] H (.tup [.int .i64 0,.int .i64 2]):=fun K S L t0 t2 q y a0 H i j s s' hi hj h h1 h2=>lendW (fun H=>by
  obtain ⟨m,m1,m2,m3,m4⟩:=bad K S L t0 t2 q y a0 h h1 h2
  rw [← m4]
  exact value_bad m m1 m2 m3 _ _ _ _ H) rfl H i j s s' hi hj
 have c45:∀ K S L t0 t2 q y a0 (H:Heap) (i j s s':Nat),H[i]? = some (.box 95 (bdF t0 (w 1 % 2:Nat) t2 q++List.replicate s .junk))→H[j]? = some (.box 99 (bdB a0 (w 6 % madN k:Nat) (w 7 % madN k:Nat) y++List.replicate s' .junk))→badC K S L t0 t2 q y a0 (madN k)→q.size≤100→y.size≤100→VDet Tryz.prog 45 [bdA K S L ((madW (madN k) w).funcs.flatMap Fnc.cells) i j] H (.tup [.int .i64 0,.int .i64 2]):=fun K S L t0 t2 q y a0 H i j s s' hi hj h h1 h2=>lendW (fun H=>by
  obtain ⟨m,m1,m2,m3,m4⟩:=bad K S L t0 t2 q y a0 h h1 h2
  rw [← m4]
  exact number_bad m m1 m2 m3 H) rfl H i j s s' hi hj
 have c46:∀ K S L t0 t2 q y a0 (H:Heap) (i j s s':Nat),H[i]? = some (.box 95 (bdF t0 (w 1 % 2:Nat) t2 q++List.replicate s .junk))→H[j]? = some (.box 99 (bdB a0 (w 6 % madN k:Nat) (w 7 % madN k:Nat) y++List.replicate s' .junk))→badC K S L t0 t2 q y a0 (madN k)→q.size≤100→y.size≤100→VDet Tryz.prog 46 [bdA K S L ((madW (madN k) w).funcs.flatMap Fnc.cells) i j,.sx (madN k) ((permN (madN k) wh).flatMap encN)] H (.tup [.agg [.int .u8 0,.int .i64 0,.nils,.int .i64 0,.nils,.nils,.nils],.int .i64 2]):=fun K S L t0 t2 q y a0 H i j s s' hi hj h h1 h2=>lendW (fun H=>by
  obtain ⟨m,m1,m2,m3,m4⟩:=bad K S L t0 t2 q y a0 h h1 h2
  rw [← m4]
  exact VDet.wk (moved_bad m m1 m2 m3 _ _ H) ⟨Wk.refl _,wk_sx _ _,trivial⟩) rfl H i j s s' hi hj
 have c53:∀ K S L t0 t2 q y a0 (H:Heap) (i j s s':Nat),H[i]? = some (.box 95 (bdF t0 (w 1 % 2:Nat) t2 q++List.replicate s .junk))→H[j]? = some (.box 99 (bdB a0 (w 6 % madN k:Nat) (w 7 % madN k:Nat) y++List.replicate s' .junk))→badC K S L t0 t2 q y a0 (madN k)→q.size≤100→y.size≤100→VDet Tryz.prog 53 [bdA K S L ((madW (madN k) w).funcs.flatMap Fnc.cells) i j] H (.bool false):=fun K S L t0 t2 q y a0 H i j s s' hi hj h h1 h2=>lendW (fun H=>by
  obtain ⟨m,m1,m2,m3,m4⟩:=bad K S L t0 t2 q y a0 h h1 h2
  rw [← m4]
  have:=valid_c m m1 m2 H
  rwa [m3] at this) rfl H i j s s' hi hj
 clear bad
 -- what is asked of the structure itself
 have eD:∀ H,VDet Tryz.prog 18 [.agg (mad k w).cells,.agg (fDia p).cells] H (.tup [.bool false,.int .i64 2]):=fun H=>eval_bad _ hsm hnm _ (fDia_good hpg) (.inr (fDia_no p)) H
 have eT:∀ H,VDet Tryz.prog 18 [.agg (mad k w).cells,.agg fTwo.cells] H (.tup [.bool false,.int .i64 2]):=fun H=>eval_bad _ hsm hnm _ fTwo_good (.inr fTwo_no) H
 have eS:∀ H,VDet Tryz.prog 29 [.sl none 2 (fqx p++fThree.cells)] H (.tup [.agg [.sl none 0 [],.sl none 0 [],.sl none 0 []],.int .i64 2]):=fun H=>by
  rw [← hfq]
  exact sig_bad2 p.fo fThree hpg fThree_good hpr fThree_no H
 have eP:∀ H,VDet Tryz.prog 46 [.agg (mad k w).cells,.sl none (madN k+1) ((permN (madN k) wh).flatMap encN++[.int .i64 (madN k:Nat)])] H (.tup [.agg [.int .u8 0,.int .i64 0,.nils,.int .i64 0,.nils,.nils,.nils],.int .i64 2]):=fun H=>by
  have:=movedp_bad _ hsm hnm hva (madN k) hn rfl ((permN (madN k) wh++[madN k]).map Int.ofNat) (perm_long hPl) H
  rw [List.length_map,List.length_append,hPl,nat_flat,List.flatMap_append] at this
  exact this
 have eZ:∀ H,VDet Tryz.prog 46 [.agg (mad k w).cells,.sl none ((max ((madN k:Nat):Int) 2).toNat-0) (repC (max (madN k) 2) [.int .i64 0])] H (.tup [.agg [.int .u8 0,.int .i64 0,.nils,.int .i64 0,.nils,.nils,.nils],.int .i64 2]):=fun H=>by
  have:=movedp_bad _ hsm hnm hva (madN k) hn rfl (List.replicate (max (madN k) 2) 0) (perm_zero hn) H
  rw [List.length_replicate,rep_zero] at this
  rw [show (max ((madN k:Nat):Int) 2).toNat-0=max (madN k) 2 by omega]
  exact this
 have eL:∀ H,VDet Tryz.prog 18 [.agg (mad k w).cells,.agg (fqx (longQ 7))] H (.tup [.bool false,.int .i64 3]):=fun H=>by
  have hg:=long_gd 7 (by omega)
  have:=eval_c _ hsm hnm (longQ 7) hg.sm hva hg.right H
  rw [long_rank,if_pos (by omega),fqx_eq] at this
  exact this
 have eM:∀ H,VDet Tryz.prog 18 [.agg (mad k w).cells,.agg (fqx (longQ 6))] H (.tup [.bool (hv (mad k w) (longQ 6) (bindF (mad k w))),.int .i64 0]):=fun H=>evalQ _ hsm hnm hva _ (long_gd 6 (by omega)) (by rw [long_rank];omega) hal H
 have eV:∀ H,VDet Tryz.prog 53 [.agg (mad k w).cells] H (.bool true):=fun H=>by
  have:=valid_c _ hsm hnm H
  rwa [hva] at this
 have eR:∀ H,VDet Tryz.prog 59 [.agg (fqx p)] H (.bool true):=fun H=>by
  have:=rightQ_c p.fo hpg H
  rwa [hpr,hfq] at this
 have tB:=fun H=>term67_c wh hwh H
 have t0:∀ H,VDet Tryz.prog 67 [.int .u8 0] H (.agg [.bool true,.str nX,.sl none 0 []]):=fun H=>term67_c 0 (by omega) H
 have t1:∀ H,VDet Tryz.prog 67 [.int .u8 1] H (.agg [.bool true,.str nY,.sl none 0 []]):=fun H=>term67_c 1 (by omega) H
 have t2:∀ H,VDet Tryz.prog 67 [.int .u8 2] H (.agg [.bool true,.str nZ,.sl none 0 []]):=fun H=>term67_c 2 (by omega) H
 generalize hv (mad k w) (longQ 6) (bindF (mad k w))=vL at eM
 have hmc:(mad k w).cells=[.int .u8 2,.int .i64 (madN k:Nat),.sl none 0 [],.int .i64 0,.sl none 3 (bdF (w 0 % 2 ^ madN k:Nat) (w 1 % 2:Nat) (w 2 % 2 ^ (madN k * madN k):Nat) nQ),.sl none 2 ((madW (madN k) w).funcs.flatMap Fnc.cells),.sl none 3 (bdB (w 5 % madN k:Nat) (w 6 % madN k:Nat) (w 7 % madN k:Nat) nY)]:=rfl
 rw [hmc] at hMd eD eT eP eZ eL eM eV
 have hub:∀ n,belowL n ((madW (madN k) w).funcs.flatMap Fnc.cells):=fun n=>fncs_below n _
 generalize (madW (madN k) w).funcs.flatMap Fnc.cells=uc at *
 rw [fDia_cells] at eD
 rw [fTwo_cells] at eT
 rw [fThree_cells] at eS
 obtain ⟨o,s,n1,c1,n2,c2,hqe,hpb⟩:=fqx_ex p
 rw [hqe] at hBl c18 eD eS eR
 clear hfq hqe
 generalize hN:madN k=n at *
 have hLl:((permN n wh).flatMap encN).length=n * 1:=by rw [flat_length (f:=encN) (sz:=1) (fun _=>rfl),hPl]
 have hLb:∀ m,belowL m ((permN n wh).flatMap encN):=fun m=>encN_below m _
 generalize (permN n wh).flatMap encN=LP at *
 have hsh:1 <<< n<64∧1 <<< n=2 ^ n:=by
  have h:n=1∨n=2∨n=3:=by omega
  rcases h with rfl|rfl|rfl <;> decide
 unfold bdA at c18 c58 c45 c46 c53
 unfold bdF bdB at *
 have hqb:∀ m,belowL m [.int .u8 o,.str s,.sl none n1 c1,.sl none n2 c2]:=fun m=>by simp [below,belowL,hpb]
 have hdb:∀ m,belowL m ([.int .u8 o,.str s,.sl none n1 c1,.sl none n2 c2,.int .u8 11,.str .empty,.sl none 0 [],.sl none 1 [.int .u8 o,.str s,.sl none n1 c1,.sl none n2 c2]]):=fun m=>by simp [below,belowL,hpb]
 unfold tqx at tB c58
 obtain ⟨c,hc,hc9⟩:∃ c,wh % 9=c∧c<9:=⟨_,rfl,Nat.mod_lt _ (by decide)⟩
 have hcs:c=0∨c=1∨c=2∨c=3∨c=4∨c=5∨c=6∨c=7∨c=8:=by omega
 rcases hcs with rfl|rfl|rfl|rfl|rfl|rfl|rfl|rfl|rfl
 all_goals
  refine fn_det Tryz.E0 Tryz.mx Tryz.func11 (by kernel_rfl) rfl (Nat.le_of_ble_eq_true rfl) rfl fun hcl hbl=>?_
  (repeat' ((conv=>whnf);(first|(refine OrN.r (OrN.r (OrN.r ?_));(conv=>whnf);refine SideN.mk ⟨Nat.le_of_ble_eq_true rfl,hLl,rfl,by show (n+1) * 8≤_;omega,Nat.le_trans (show n+1≤10 by omega) (by decide)⟩ ?_)|(refine IfN.id ?_;first|refine IfN.not ?_|refine IfN.tt rfl ?_|refine IfN.ff rfl ?_|fail)|(refine EqN.id ?_;first|refine EqN.remC _ rfl rfl hc ?_|refine EqN.shlN 1 n rfl rfl rfl (by omega) (by omega) ?_|(refine EqN.addN _ _ Cst.h Cst.h ?_ ?_;· omega)|fail)|refine OrN.natL ?_|(refine SideN.mk ?_ ?_;· first|kernel_rfl|omega|exact List.cons_ne_nil _ _|(simp;done)|(simp;omega)|exact trivial|assumption|fail)|refine NatN.mk _ rfl ?_|refine NatN.at_ (by omega) ?_|(refine CallN.id ?_;first|refine CallN.det _ (awake_c _) ?_|refine CallN.det _ (hMd _) ?_|refine CallN.det _ (hBl _) ?_|refine CallN.det _ (hPm _) ?_|refine CallN.det _ (c18 _ _ _ _ _ _ _ _ _ _ _ _ _ (by (repeat' (first|assumption|exact at_loc' _ rfl|exact at_loc0 rfl|refine at_set (B':=?_) ?_|refine at_base' ?_|fail))) (by (repeat' (first|assumption|exact at_loc' _ rfl|exact at_loc0 rfl|refine at_set (B':=?_) ?_|refine at_base' ?_|fail))) (by first|exact .inl (by omega)|exact .inr (.inl (by omega))|exact .inr (.inr (.inl ⟨rfl,by omega⟩))|exact .inr (.inr (.inr (.inl (by omega))))|exact .inr (.inr (.inr (.inr (.inl ⟨rfl,by omega⟩))))|exact .inr (.inr (.inr (.inr (.inr (.inl ⟨rfl,rfl⟩)))))|exact .inr (.inr (.inr (.inr (.inr (.inr (.inl ⟨rfl,rfl⟩))))))|exact .inr (.inr (.inr (.inr (.inr (.inr (.inr (.inl (by decide))))))))|exact .inr (.inr (.inr (.inr (.inr (.inr (.inr (.inr (by omega))))))))) (by decide) (by decide)) ?_|refine CallN.det _ (c45 _ _ _ _ _ _ _ _ _ _ _ _ _ (by (repeat' (first|assumption|exact at_loc' _ rfl|exact at_loc0 rfl|refine at_set (B':=?_) ?_|refine at_base' ?_|fail))) (by (repeat' (first|assumption|exact at_loc' _ rfl|exact at_loc0 rfl|refine at_set (B':=?_) ?_|refine at_base' ?_|fail))) (by first|exact .inl (by omega)|exact .inr (.inl (by omega))|exact .inr (.inr (.inl ⟨rfl,by omega⟩))|exact .inr (.inr (.inr (.inl (by omega))))|exact .inr (.inr (.inr (.inr (.inl ⟨rfl,by omega⟩))))|exact .inr (.inr (.inr (.inr (.inr (.inl ⟨rfl,rfl⟩)))))|exact .inr (.inr (.inr (.inr (.inr (.inr (.inl ⟨rfl,rfl⟩))))))|exact .inr (.inr (.inr (.inr (.inr (.inr (.inr (.inl (by decide))))))))|exact .inr (.inr (.inr (.inr (.inr (.inr (.inr (.inr (by omega))))))))) (by decide) (by decide)) ?_|refine CallN.det _ (c46 _ _ _ _ _ _ _ _ _ _ _ _ _ (by (repeat' (first|assumption|exact at_loc' _ rfl|exact at_loc0 rfl|refine at_set (B':=?_) ?_|refine at_base' ?_|fail))) (by (repeat' (first|assumption|exact at_loc' _ rfl|exact at_loc0 rfl|refine at_set (B':=?_) ?_|refine at_base' ?_|fail))) (by first|exact .inl (by omega)|exact .inr (.inl (by omega))|exact .inr (.inr (.inl ⟨rfl,by omega⟩))|exact .inr (.inr (.inr (.inl (by omega))))|exact .inr (.inr (.inr (.inr (.inl ⟨rfl,by omega⟩))))|exact .inr (.inr (.inr (.inr (.inr (.inl ⟨rfl,rfl⟩)))))|exact .inr (.inr (.inr (.inr (.inr (.inr (.inl ⟨rfl,rfl⟩))))))|exact .inr (.inr (.inr (.inr (.inr (.inr (.inr (.inl (by decide))))))))|exact .inr (.inr (.inr (.inr (.inr (.inr (.inr (.inr (by omega))))))))) (by decide) (by decide)) ?_|refine CallN.det _ (cntYX _) ?_|refine CallN.det _ (nthP1 _ (by omega) _) ?_|fail)|(refine CallD.id ?_;first|refine CallD.det _ (fun _ hq X=>tB _) ?_|refine CallD.det _ (fun _ hq X=>c58 _ _ _ _ _ _ _ _ _ _ _ _ _ (at_tq X hq rfl rfl rfl) (at_tq X hq rfl rfl rfl) (by first|exact .inl (by omega)|exact .inr (.inl (by omega))|exact .inr (.inr (.inl ⟨rfl,by omega⟩))|exact .inr (.inr (.inr (.inl (by omega))))|exact .inr (.inr (.inr (.inr (.inl ⟨rfl,by omega⟩))))|exact .inr (.inr (.inr (.inr (.inr (.inl ⟨rfl,rfl⟩)))))|exact .inr (.inr (.inr (.inr (.inr (.inr (.inl ⟨rfl,rfl⟩))))))|exact .inr (.inr (.inr (.inr (.inr (.inr (.inr (.inl (by decide))))))))|exact .inr (.inr (.inr (.inr (.inr (.inr (.inr (.inr (by omega))))))))) (by decide) (by decide)) ?_|refine CallD.det _ (fun _ hq X=>VDet.wk (join52_c 11 1 _ hqb _) ⟨Wk.refl _,wk_sx _ _,trivial⟩) ?_|refine CallD.det _ (fun _ hq X=>VDet.wk (join52_c 4 2 _ hdb _) ⟨Wk.refl _,wk_sx _ _,trivial⟩) ?_|refine CallD.det _ (fun _ hq X=>eD _) ?_|refine CallD.det _ (fun _ hq X=>v22_c nX _) ?_|refine CallD.det _ (fun _ hq X=>v22_c nY _) ?_|refine CallD.det _ (fun _ hq X=>VDet.wk (fn68_c nF 2 [.bool true,.str nX,.sl none 0 [],.bool true,.str nY,.sl none 0 []] (fun m=>by simp [below,belowL]) _) ⟨Wk.refl _,wk_sx _ _,trivial⟩) ?_|refine CallD.det _ (fun _ hq X=>VDet.wk (atom14_c nP 1 [.bool false,.str nF,.sl none 2 [.bool true,.str nX,.sl none 0 [],.bool true,.str nY,.sl none 0 []]] (fun m=>by simp [below,belowL]) _) ⟨Wk.refl _,wk_sx _ _,trivial⟩) ?_|refine CallD.det _ (fun _ hq X=>eT _) ?_|refine CallD.det _ (fun _ hq X=>t0 _) ?_|refine CallD.det _ (fun _ hq X=>t1 _) ?_|refine CallD.det _ (fun _ hq X=>t2 _) ?_|refine CallD.det _ (fun _ hq X=>VDet.wk (atom14_c nR 3 [.bool true,.str nX,.sl none 0 [],.bool true,.str nY,.sl none 0 [],.bool true,.str nZ,.sl none 0 []] (fun m=>by simp [below,belowL]) _) ⟨Wk.refl _,wk_sx _ _,trivial⟩) ?_|refine CallD.det _ (fun _ hq X=>VDet.wk (eS _) ⟨wk_sx _ _,trivial⟩) ?_|refine CallD.det _ (fun _ hq X=>eP _) ?_|refine CallD.det _ (fun _ hq X=>eZ _) ?_|fail)|refine OrN.r (OrN.r (OrN.l ?_))|refine SideN.mk ⟨Nat.le_of_ble_eq_true rfl,rfl,rfl,Nat.le_of_ble_eq_true rfl,Nat.le_of_ble_eq_true rfl⟩ ?_|refine BlkUN.box fun s=>?_|refine SubN.rep (m:=max n 2) rfl (by show ((max (n:Int) 2).toNat-0) * 1=_;omega) (by omega) ?_|refine PtrN.loc _ rfl ?_|refine OfsN.at_ (by omega) ?_|refine DrawN.mk' [] ?_|fail)));all_goals (conv=>whnf)
  refine LoopN.rounds Tryz.E0 Tryz.mx 12 rfl ?_
  (repeat' ((conv=>whnf);(first|(refine IfN.id ?_;first|refine IfN.not ?_|refine IfN.tt rfl ?_|refine IfN.ff rfl ?_|fail)|(refine EqN.addN _ _ Cst.h Cst.h ?_ ?_;· omega)|(refine SideN.mk ?_ ?_;· first|kernel_rfl|omega|exact List.cons_ne_nil _ _|(simp;done)|(simp;omega)|exact trivial|assumption|fail)|refine CallN.det _ (VDet.wk (atom14_c nQ 0 [] (fun m=>trivial) _) ⟨Wk.refl _,wk_nils,trivial⟩) ?_|refine SegN.mk _ (seg_rfl rfl) ?_|refine DrawN.mk' [] ?_|fail)));all_goals (conv=>whnf)
  refine LoopN.rounds Tryz.E0 Tryz.mx 8 rfl ?_
  (repeat' ((conv=>whnf);(first|(refine IfN.id ?_;first|refine IfN.not ?_|refine IfN.tt rfl ?_|refine IfN.ff rfl ?_|fail)|(refine EqN.addN _ _ Cst.h Cst.h ?_ ?_;· omega)|(refine SideN.mk ?_ ?_;· first|kernel_rfl|omega|exact List.cons_ne_nil _ _|(simp;done)|(simp;omega)|exact trivial|assumption|fail)|(refine CallN.id ?_;first|refine CallN.det _ (boundQ 9 nX (longQ 0) _) ?_|refine CallN.det _ (boundQ 9 nX (longQ 1) _) ?_|refine CallN.det _ (boundQ 9 nX (longQ 2) _) ?_|refine CallN.det _ (boundQ 9 nX (longQ 3) _) ?_|refine CallN.det _ (boundQ 9 nX (longQ 4) _) ?_|refine CallN.det _ (boundQ 9 nX (longQ 5) _) ?_|refine CallN.det _ (boundQ 9 nX (longQ 6) _) ?_|refine CallN.det _ (eL _) ?_|refine CallN.det _ (nthP2 _ (by omega) _) ?_|refine CallN.det _ (eV _) ?_|refine CallN.det _ (eR _) ?_|refine CallN.det _ (c53 _ _ _ _ _ _ _ _ _ _ _ _ _ (by (repeat' (first|assumption|exact at_loc' _ rfl|exact at_loc0 rfl|refine at_set (B':=?_) ?_|refine at_base' ?_|fail))) (by (repeat' (first|assumption|exact at_loc' _ rfl|exact at_loc0 rfl|refine at_set (B':=?_) ?_|refine at_base' ?_|fail))) (by first|exact .inl (by omega)|exact .inr (.inl (by omega))|exact .inr (.inr (.inl ⟨rfl,by omega⟩))|exact .inr (.inr (.inr (.inl (by omega))))|exact .inr (.inr (.inr (.inr (.inl ⟨rfl,by omega⟩))))|exact .inr (.inr (.inr (.inr (.inr (.inl ⟨rfl,rfl⟩)))))|exact .inr (.inr (.inr (.inr (.inr (.inr (.inl ⟨rfl,rfl⟩))))))|exact .inr (.inr (.inr (.inr (.inr (.inr (.inr (.inl (by decide))))))))|exact .inr (.inr (.inr (.inr (.inr (.inr (.inr (.inr (by omega))))))))) (by decide) (by decide)) ?_|fail)|refine CallD.det _ (fun _ hq X=>eM _) ?_|refine SegN.mk _ (seg_rfl rfl) ?_|refine DrawN.mk' [] ?_|fail)));all_goals (conv=>whnf)
  exact EndN.det trivial (Wk.refl _)
end Go.Proofs.YtgdmldelijeaoaaGreatDoor
/-! text DZ41 -/
namespace Go.Proofs.YtgdmldelijeaoaaGreatDoor
open Go.ChangeShapes Go.WideShapes Go.ChangeAt Go.RowKit Go.Vsi
theorem mrel_of {g:G} {W:World} {b:Nat} (hg:∀ b o,¬ g.own b o):∀ (l:List AV) (cs:List Value) (o:Nat),LRel g W l cs→(∀ (i:Nat) c,cs[i]? = some c→W.cell? ⟨b,o+i,.none⟩=some c)→MRel g W l b o
 | [],_,_,_,_=>trivial
 | v::l,cs,o,h,hc=>by
   simp only [LRel] at h
   obtain ⟨c,r,rfl,h1,h2⟩:=h
   refine ⟨⟨c,by simpa using hc 0 c rfl,h1,hg _ _⟩,?_⟩
   exact mrel_of hg l r (o+1) h2 fun i c' hi=>by
    have:=hc (i+1) c' (by simpa using hi)
    rwa [show o+(i+1)=o+1+i by omega] at this
theorem mone {W:World} {n:String} {gi:Nat} {ty:TypeId} {T:Ty} {D:DataW Unit} {cells:List AV} {g0:Nat} {t0:TypeId} {cs0:Array Value} {f0:Nat} {p0:List MemPlace}
  (hg:Tryz.prog.globalNamed n=some gi) (ht:(Tryz.prog.globals[gi]?).map (·.type)=some ty) (hty:TyOk Tryz.prog ty T) (hpl:PlTy T) (hD:∃ l',DatOf (H:=Unit) D l'∧l'=cells)
  (hg0:Tryz.prog.globalNamed n=some g0) (ht0:(Tryz.prog.globals[g0]?).map (·.type)=some t0) (hv0:W.var? Tryz.prog n=some cs0) (hd0:DataW.trod (fun _=>()) Tryz.prog W 0 (fun _=>true) false f0 t0 cs0.toList=some (D,p0)):MRel G.none W cells gi 0:=by
 obtain rfl:=Option.some.inj (hg.symm.trans hg0)
 obtain rfl:=Option.some.inj (ht.symm.trans ht0)
 obtain ⟨l,h1,h2⟩:=trod_dat (g:=G.none) _ hpl hty hd0
 obtain ⟨l',hl1,hl2⟩:=hD
 have hll:l=cells:=(DatOf.det h1 hl1).trans hl2
 rw [← hll]
 refine mrel_of (fun _ _ h=>h) l cs0.toList 0 h2 fun i c hi=>?_
 have:=World.var?_cell hg0 hv0 i
 rw [Nat.zero_add,this]
 simpa using hi
theorem gl_of_laid {W:World} (h:laidMetH Tryz.prog [("lyceum/syntax.rows",Rows.laid_lyceum_syntax_rows)] W):∀ p∈Glob.gl,MRel G.none W p.2 p.1 0:=by
 rw [MakeChecks.laidMetH_plain _ _ _ (by kernel_rfl)] at h
 obtain ⟨ps,⟨g0,t0,cs0,f0,p0,q0,hg0,ht0,hv0,hd0,_⟩,_⟩:=h
 have m0:MRel G.none W (Tryz.gl[0]).2 1 0:=mone (T:=repTy 17 (.pair .bool (.pair .bool (.pair (.int .u8) (.pair (.int .i64) (.pair (.int .i64) .unit)))))) (ty:=239) (by kernel_rfl) (by kernel_rfl) (tyOf_ok Tryz.T_ok 12 239 _ (by kernel_rfl)) (by simp [repTy,PlTy]) ⟨_,by unfold Rows.laid_lyceum_syntax_rows;repeat constructor,by kernel_rfl⟩ hg0 ht0 hv0 hd0
 intro p hp
 have hp0:p=Tryz.gl[0]:=by
  have:p∈Tryz.gl:=hp
  simpa [Tryz.gl] using this
 subst hp0
 exact m0
theorem u8_nat {n:Int} (h:(Lit.int .u8 n).wf=true):∃ m:Nat,n=m∧m≤255:=⟨n.toNat,by have:=wf_u8 h;omega,by have:=wf_u8 h;omega⟩
theorem u16_nat {n:Int} (h:(Lit.int .u16 n).wf=true):∃ m:Nat,n=m∧m≤65535:=⟨n.toNat,by have:=wf_u16 h;omega,by have:=wf_u16 h;omega⟩
theorem bytes_nat {l:List Int} (h:l.length≤maxLen∧∀ x∈l,(Lit.int .u8 x).wf=true):∃ c:List Nat,l=c.map (fun n:Nat=>(n:Int))∧c.length≤9223372036854775807∧∀ i,i<c.length→c.getD i 0≤255:=by
 refine ⟨l.map Int.toNat,?_,by simpa using maxLen_le h.1,fun i hi=>?_⟩
 ·rw [List.map_map]
  refine (List.map_id' l).symm.trans (List.map_congr_left fun x hx=>?_)
  have:=wf_u8 (h.2 x hx)
  simp only [Function.comp]
  omega
 ·have hi':i<l.length:=by simpa using hi
  have:=wf_u8 (h.2 _ (List.getElem_mem hi'))
  simp only [List.getD_eq_getElem?_getD,List.getElem?_map,List.getElem?_eq_getElem hi',Option.map_some,Option.getD_some]
  omega
theorem bytes_len (c:List Nat):List.length (α:=Ty.I (.int .u8)) (c.map fun n:Nat=>(n:Int))=c.length:=List.length_map ..
theorem bytes_enc (c:List Nat):List.flatMap (α:=Ty.I (.int .u8)) (Ty.enc (.int .u8)) (c.map fun n:Nat=>(n:Int))=c.flatMap fun n:Nat=>[.int .u8 (n:Int)]:=by
 induction c with
 | nil=>rfl
 | cons x c ih=>rw [List.flatMap_cons,← ih];rfl
theorem bytes_cast (c:List Nat) (p:AV→Prop) (h:p (.sl none c.length (c.flatMap fun n:Nat=>[.int .u8 (n:Int)]))):p (.sl none (List.length (α:=Ty.I (.int .u8)) (c.map fun n:Nat=>(n:Int))) (List.flatMap (α:=Ty.I (.int .u8)) (Ty.enc (.int .u8)) (c.map fun n:Nat=>(n:Int)))):=by
 rw [bytes_len,bytes_enc];exact h
def ty47w:Ty:=repTy 8 (.int .u16)
theorem words8 {x:ty47w.I} (h:ty47w.good x):∃ w:Nat→Nat,(∀ i,w i≤65535)∧ty47w.enc x=[.int .u16 (w 0:Nat),.int .u16 (w 1:Nat),.int .u16 (w 2:Nat),.int .u16 (w 3:Nat),.int .u16 (w 4:Nat),.int .u16 (w 5:Nat),.int .u16 (w 6:Nat),.int .u16 (w 7:Nat)]:=by
 obtain ⟨a0,e0,h0⟩:=u16_nat h.1
 obtain ⟨a1,e1,h1⟩:=u16_nat h.2.1
 obtain ⟨a2,e2,h2⟩:=u16_nat h.2.2.1
 obtain ⟨a3,e3,h3⟩:=u16_nat h.2.2.2.1
 obtain ⟨a4,e4,h4⟩:=u16_nat h.2.2.2.2.1
 obtain ⟨a5,e5,h5⟩:=u16_nat h.2.2.2.2.2.1
 obtain ⟨a6,e6,h6⟩:=u16_nat h.2.2.2.2.2.2.1
 obtain ⟨a7,e7,h7⟩:=u16_nat h.2.2.2.2.2.2.2.1
 refine ⟨fun i=>[a0,a1,a2,a3,a4,a5,a6,a7].getD i 0,fun i=>?_,?_⟩
 ·match i with
  | 0=>exact h0
  | 1=>exact h1
  | 2=>exact h2
  | 3=>exact h3
  | 4=>exact h4
  | 5=>exact h5
  | 6=>exact h6
  | 7=>exact h7
  | i+8=>exact Nat.zero_le _
 ·show [AV.int .u16 x.1,AV.int .u16 x.2.1,AV.int .u16 x.2.2.1,AV.int .u16 x.2.2.2.1,AV.int .u16 x.2.2.2.2.1,AV.int .u16 x.2.2.2.2.2.1,AV.int .u16 x.2.2.2.2.2.2.1,AV.int .u16 x.2.2.2.2.2.2.2.1]=[AV.int .u16 ((a0:Nat):Int),AV.int .u16 ((a1:Nat):Int),AV.int .u16 ((a2:Nat):Int),AV.int .u16 ((a3:Nat):Int),AV.int .u16 ((a4:Nat):Int),AV.int .u16 ((a5:Nat):Int),AV.int .u16 ((a6:Nat):Int),AV.int .u16 ((a7:Nat):Int)]
  rw [e0,e1,e2,e3,e4,e5,e6,e7]
end Go.Proofs.YtgdmldelijeaoaaGreatDoor
