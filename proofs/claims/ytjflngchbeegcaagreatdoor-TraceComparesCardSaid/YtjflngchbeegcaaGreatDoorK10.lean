/- A text of the proof: the parts K13z, L13z, M13z, N13z, O13z, P13z, Q13z, S13z, U13z, V13z, W13z, X13z, KC13c, LC13c, MC13c, NC13c. -/
import Derived.Test.YtjflngchbeegcaaGreatDoorK9
set_option linter.unusedSimpArgs false
set_option linter.unusedVariables false
set_option maxHeartbeats 8000000
namespace Go.Proofs.YtjflngchbeegcaaGreatDoor
open Go.Vsi
section
attribute [local irreducible] VW VCall VO bits
theorem form_at (c:UInt8) (hc:cap c) (H:Heap) (i L d:Nat) (hi:H[i]? = some (jb L)) (hL:1≤L∧L≤400) (hd:d≤40):VCall Tryz.prog 139 [.ptr i 0,.agg (Fm.at c).cells,.int .i64 d] H (setR H i (jb (L-1)) (.bool true)):=by
 have hn:=fun X=>node_c (H++X) i L d (zai hi) hL hd
 unfold jb at hi hn ⊢
 unfold Fm.cells
 simp only [Fm.op,Fm.nmB,Fm.sn,Fm.sc]
 refine zbg Tryz.E0 zaa Tryz.func139 (by kernel_rfl) rfl (Nat.le_of_ble_eq_true rfl) rfl fun hcl hbl=>?_
 (repeat' ((conv=>whnf);(first|(refine IfN.id ?_;first|refine IfN.not ?_|refine IfN.tt rfl ?_|refine IfN.ff rfl ?_|fail)|(refine EqN.id ?_;first|(refine zaf _ _ Cst.h Cst.h ?_ ?_;· omega)|refine zbq _ _ (by first|with_reducible rfl|exact Cst.h) (by first|with_reducible rfl|exact Cst.h) ?_|fail)|refine SideN.mk (by omega) ?_|(refine CallN.id ?_;first|refine CallN.det _ (named1_c c hc _) ?_|refine CallN.det _ (terms_c _ _ _) ?_|fail)|refine za1 i _ _ _ _ hi rfl rfl (hn _) rfl ?_|refine SegN.mk _ (za6 rfl) ?_|fail)));conv=>whnf
 refine LoopN.rounds Tryz.E0 zaa 1 (by simp) ?_
 (repeat' ((conv=>whnf);(first|refine IfN.ff rfl ?_|fail)));conv=>whnf
 exact za7 (by simp [Blk.below,zac,below]) trivial (Wk.refl _)
theorem form_fa (H:Heap) (i L d:Nat) (hi:H[i]? = some (jb L)) (hL:1≤L∧L≤400) (hd:d≤40):VCall Tryz.prog 139 [.ptr i 0,.agg Fm.fa.cells,.int .i64 d] H (setR H i (jb (L-1)) (.bool true)):=by
 have hn:=fun X=>node_c (H++X) i L d (zai hi) hL hd
 unfold jb at hi hn ⊢
 unfold Fm.cells
 simp only [Fm.op,Fm.nmB,Fm.sn,Fm.sc]
 refine zbg Tryz.E0 zaa Tryz.func139 (by kernel_rfl) rfl (Nat.le_of_ble_eq_true rfl) rfl fun hcl hbl=>?_
 (repeat' ((conv=>whnf);(first|(refine IfN.id ?_;first|refine IfN.not ?_|refine IfN.tt rfl ?_|refine IfN.ff rfl ?_|fail)|(refine EqN.id ?_;first|(refine zaf _ _ Cst.h Cst.h ?_ ?_;· omega)|refine zbq _ _ (by first|with_reducible rfl|exact Cst.h) (by first|with_reducible rfl|exact Cst.h) ?_|fail)|refine SideN.mk (by omega) ?_|(refine CallN.id ?_;first|refine CallN.det _ (named0_c _) ?_|refine CallN.det _ (terms_c _ _ _) ?_|fail)|refine za1 i _ _ _ _ hi rfl rfl (hn _) rfl ?_|refine SegN.mk _ (za6 rfl) ?_|fail)));conv=>whnf
 refine LoopN.rounds Tryz.E0 zaa 1 (by simp) ?_
 (repeat' ((conv=>whnf);(first|refine IfN.ff rfl ?_|fail)));conv=>whnf
 exact za7 (by simp [Blk.below,zac,below]) trivial (Wk.refl _)
def FormIH (a:Fm):Prop:=∀ (H:Heap) (i L d:Nat),H[i]? = some (jb L)→a.nodes≤L∧L≤400→d+a.depth≤41→VCall Tryz.prog 139 [.ptr i 0,.agg a.cells,.int .i64 d] H (setR H i (jb (L-a.nodes)) (.bool true))
theorem form_f1_3 (a:Fm) (ih:FormIH a) (H:Heap) (i L d:Nat) (hi:H[i]? = some (jb L)) (hL:a.nodes+1≤L∧L≤400) (hd:d+(a.depth+1)≤41):VCall Tryz.prog 139 [.ptr i 0,.agg (Fm.f1 3 a).cells,.int .i64 d] H (setR H i (jb (L-(a.nodes+1))) (.bool true)):=by
 have hp:=a.nodes_pos
 have hpd:=a.depth_pos
 have hn:=fun X=>node_c (H++X) i L d (zai hi) (by omega) (by omega)
 have h1:=fun X=>ih (H.set i (jb (L-1))++X) i (L-1) (d+1) (zai (zar hi)) (by omega) (by omega)
 rw [show L-1-a.nodes=L-(a.nodes+1) by omega] at h1
 unfold jb at hi hn h1 ⊢
 rw [show (Fm.f1 3 a).cells=[.int .u8 (3:Nat),.str .empty,.sl none 0 [],.sl none 1 [.int .u8 a.op,.str a.nmB,.sl none 0 [],.sl none a.sn a.sc]] from rfl]
 unfold Fm.cells at h1
 generalize a.op=ao at h1 ⊢
 generalize a.nmB=an at h1 ⊢
 generalize a.sn=asn at h1 ⊢
 generalize a.sc=asc at h1 ⊢
 refine zbg Tryz.E0 zaa Tryz.func139 (by kernel_rfl) rfl (Nat.le_of_ble_eq_true rfl) rfl fun hcl hbl=>?_
 (repeat' ((conv=>whnf);(first|(refine IfN.id ?_;first|refine IfN.not ?_|refine IfN.tt rfl ?_|refine IfN.ff rfl ?_|fail)|(refine EqN.id ?_;first|(refine zaf _ _ Cst.h Cst.h ?_ ?_;· omega)|refine zbq _ _ (by first|with_reducible rfl|exact Cst.h) (by first|with_reducible rfl|exact Cst.h) ?_|fail)|refine SideN.mk (by omega) ?_|(refine CallN.id ?_;first|refine CallN.det _ (named0_c _) ?_|refine CallN.det _ (terms_c _ _ _) ?_|fail)|refine za1 i _ _ _ _ hi rfl rfl (hn _) rfl ?_|refine SegN.mk _ (za6 rfl) ?_|fail)));conv=>whnf
 refine LoopN.rounds Tryz.E0 zaa 2 (by simp) ?_
 (repeat' ((conv=>whnf);(first|(refine IfN.id ?_;first|refine IfN.not ?_|refine IfN.tt rfl ?_|refine IfN.ff rfl ?_|fail)|(refine zaf _ _ Cst.h Cst.h ?_ ?_;· omega)|(refine SideN.mk ?_ ?_;· first|omega|exact List.cons_ne_nil _ _|fail)|refine za1 i _ _ _ _ (zar hi) (by simp) rfl (h1 _) (List.set_set ..) ?_|refine SegN.mk _ (za6 rfl) ?_|fail)));conv=>whnf
 exact za7 (by simp [Blk.below,zac,below]) trivial (Wk.refl _)
theorem form_f1_10 (a:Fm) (ih:FormIH a) (H:Heap) (i L d:Nat) (hi:H[i]? = some (jb L)) (hL:a.nodes+1≤L∧L≤400) (hd:d+(a.depth+1)≤41):VCall Tryz.prog 139 [.ptr i 0,.agg (Fm.f1 10 a).cells,.int .i64 d] H (setR H i (jb (L-(a.nodes+1))) (.bool true)):=by
 have hp:=a.nodes_pos
 have hpd:=a.depth_pos
 have hn:=fun X=>node_c (H++X) i L d (zai hi) (by omega) (by omega)
 have h1:=fun X=>ih (H.set i (jb (L-1))++X) i (L-1) (d+1) (zai (zar hi)) (by omega) (by omega)
 rw [show L-1-a.nodes=L-(a.nodes+1) by omega] at h1
 unfold jb at hi hn h1 ⊢
 rw [show (Fm.f1 10 a).cells=[.int .u8 (10:Nat),.str .empty,.sl none 0 [],.sl none 1 [.int .u8 a.op,.str a.nmB,.sl none 0 [],.sl none a.sn a.sc]] from rfl]
 unfold Fm.cells at h1
 generalize a.op=ao at h1 ⊢
 generalize a.nmB=an at h1 ⊢
 generalize a.sn=asn at h1 ⊢
 generalize a.sc=asc at h1 ⊢
 refine zbg Tryz.E0 zaa Tryz.func139 (by kernel_rfl) rfl (Nat.le_of_ble_eq_true rfl) rfl fun hcl hbl=>?_
 (repeat' ((conv=>whnf);(first|(refine IfN.id ?_;first|refine IfN.not ?_|refine IfN.tt rfl ?_|refine IfN.ff rfl ?_|fail)|(refine EqN.id ?_;first|(refine zaf _ _ Cst.h Cst.h ?_ ?_;· omega)|refine zbq _ _ (by first|with_reducible rfl|exact Cst.h) (by first|with_reducible rfl|exact Cst.h) ?_|fail)|refine SideN.mk (by omega) ?_|(refine CallN.id ?_;first|refine CallN.det _ (named0_c _) ?_|refine CallN.det _ (terms_c _ _ _) ?_|fail)|refine za1 i _ _ _ _ hi rfl rfl (hn _) rfl ?_|refine SegN.mk _ (za6 rfl) ?_|fail)));conv=>whnf
 refine LoopN.rounds Tryz.E0 zaa 2 (by simp) ?_
 (repeat' ((conv=>whnf);(first|(refine IfN.id ?_;first|refine IfN.not ?_|refine IfN.tt rfl ?_|refine IfN.ff rfl ?_|fail)|(refine zaf _ _ Cst.h Cst.h ?_ ?_;· omega)|(refine SideN.mk ?_ ?_;· first|omega|exact List.cons_ne_nil _ _|fail)|refine za1 i _ _ _ _ (zar hi) (by simp) rfl (h1 _) (List.set_set ..) ?_|refine SegN.mk _ (za6 rfl) ?_|fail)));conv=>whnf
 exact za7 (by simp [Blk.below,zac,below]) trivial (Wk.refl _)
theorem form_f1_11 (a:Fm) (ih:FormIH a) (H:Heap) (i L d:Nat) (hi:H[i]? = some (jb L)) (hL:a.nodes+1≤L∧L≤400) (hd:d+(a.depth+1)≤41):VCall Tryz.prog 139 [.ptr i 0,.agg (Fm.f1 11 a).cells,.int .i64 d] H (setR H i (jb (L-(a.nodes+1))) (.bool true)):=by
 have hp:=a.nodes_pos
 have hpd:=a.depth_pos
 have hn:=fun X=>node_c (H++X) i L d (zai hi) (by omega) (by omega)
 have h1:=fun X=>ih (H.set i (jb (L-1))++X) i (L-1) (d+1) (zai (zar hi)) (by omega) (by omega)
 rw [show L-1-a.nodes=L-(a.nodes+1) by omega] at h1
 unfold jb at hi hn h1 ⊢
 rw [show (Fm.f1 11 a).cells=[.int .u8 (11:Nat),.str .empty,.sl none 0 [],.sl none 1 [.int .u8 a.op,.str a.nmB,.sl none 0 [],.sl none a.sn a.sc]] from rfl]
 unfold Fm.cells at h1
 generalize a.op=ao at h1 ⊢
 generalize a.nmB=an at h1 ⊢
 generalize a.sn=asn at h1 ⊢
 generalize a.sc=asc at h1 ⊢
 refine zbg Tryz.E0 zaa Tryz.func139 (by kernel_rfl) rfl (Nat.le_of_ble_eq_true rfl) rfl fun hcl hbl=>?_
 (repeat' ((conv=>whnf);(first|(refine IfN.id ?_;first|refine IfN.not ?_|refine IfN.tt rfl ?_|refine IfN.ff rfl ?_|fail)|(refine EqN.id ?_;first|(refine zaf _ _ Cst.h Cst.h ?_ ?_;· omega)|refine zbq _ _ (by first|with_reducible rfl|exact Cst.h) (by first|with_reducible rfl|exact Cst.h) ?_|fail)|refine SideN.mk (by omega) ?_|(refine CallN.id ?_;first|refine CallN.det _ (named0_c _) ?_|refine CallN.det _ (terms_c _ _ _) ?_|fail)|refine za1 i _ _ _ _ hi rfl rfl (hn _) rfl ?_|refine SegN.mk _ (za6 rfl) ?_|fail)));conv=>whnf
 refine LoopN.rounds Tryz.E0 zaa 2 (by simp) ?_
 (repeat' ((conv=>whnf);(first|(refine IfN.id ?_;first|refine IfN.not ?_|refine IfN.tt rfl ?_|refine IfN.ff rfl ?_|fail)|(refine zaf _ _ Cst.h Cst.h ?_ ?_;· omega)|(refine SideN.mk ?_ ?_;· first|omega|exact List.cons_ne_nil _ _|fail)|refine za1 i _ _ _ _ (zar hi) (by simp) rfl (h1 _) (List.set_set ..) ?_|refine SegN.mk _ (za6 rfl) ?_|fail)));conv=>whnf
 exact za7 (by simp [Blk.below,zac,below]) trivial (Wk.refl _)
theorem form_f1_12 (a:Fm) (ih:FormIH a) (H:Heap) (i L d:Nat) (hi:H[i]? = some (jb L)) (hL:a.nodes+1≤L∧L≤400) (hd:d+(a.depth+1)≤41):VCall Tryz.prog 139 [.ptr i 0,.agg (Fm.f1 12 a).cells,.int .i64 d] H (setR H i (jb (L-(a.nodes+1))) (.bool true)):=by
 have hp:=a.nodes_pos
 have hpd:=a.depth_pos
 have hn:=fun X=>node_c (H++X) i L d (zai hi) (by omega) (by omega)
 have h1:=fun X=>ih (H.set i (jb (L-1))++X) i (L-1) (d+1) (zai (zar hi)) (by omega) (by omega)
 rw [show L-1-a.nodes=L-(a.nodes+1) by omega] at h1
 unfold jb at hi hn h1 ⊢
 rw [show (Fm.f1 12 a).cells=[.int .u8 (12:Nat),.str .empty,.sl none 0 [],.sl none 1 [.int .u8 a.op,.str a.nmB,.sl none 0 [],.sl none a.sn a.sc]] from rfl]
 unfold Fm.cells at h1
 generalize a.op=ao at h1 ⊢
 generalize a.nmB=an at h1 ⊢
 generalize a.sn=asn at h1 ⊢
 generalize a.sc=asc at h1 ⊢
 refine zbg Tryz.E0 zaa Tryz.func139 (by kernel_rfl) rfl (Nat.le_of_ble_eq_true rfl) rfl fun hcl hbl=>?_
 (repeat' ((conv=>whnf);(first|(refine IfN.id ?_;first|refine IfN.not ?_|refine IfN.tt rfl ?_|refine IfN.ff rfl ?_|fail)|(refine EqN.id ?_;first|(refine zaf _ _ Cst.h Cst.h ?_ ?_;· omega)|refine zbq _ _ (by first|with_reducible rfl|exact Cst.h) (by first|with_reducible rfl|exact Cst.h) ?_|fail)|refine SideN.mk (by omega) ?_|(refine CallN.id ?_;first|refine CallN.det _ (named0_c _) ?_|refine CallN.det _ (terms_c _ _ _) ?_|fail)|refine za1 i _ _ _ _ hi rfl rfl (hn _) rfl ?_|refine SegN.mk _ (za6 rfl) ?_|fail)));conv=>whnf
 refine LoopN.rounds Tryz.E0 zaa 2 (by simp) ?_
 (repeat' ((conv=>whnf);(first|(refine IfN.id ?_;first|refine IfN.not ?_|refine IfN.tt rfl ?_|refine IfN.ff rfl ?_|fail)|(refine zaf _ _ Cst.h Cst.h ?_ ?_;· omega)|(refine SideN.mk ?_ ?_;· first|omega|exact List.cons_ne_nil _ _|fail)|refine za1 i _ _ _ _ (zar hi) (by simp) rfl (h1 _) (List.set_set ..) ?_|refine SegN.mk _ (za6 rfl) ?_|fail)));conv=>whnf
 exact za7 (by simp [Blk.below,zac,below]) trivial (Wk.refl _)
theorem form_f1_13 (a:Fm) (ih:FormIH a) (H:Heap) (i L d:Nat) (hi:H[i]? = some (jb L)) (hL:a.nodes+1≤L∧L≤400) (hd:d+(a.depth+1)≤41):VCall Tryz.prog 139 [.ptr i 0,.agg (Fm.f1 13 a).cells,.int .i64 d] H (setR H i (jb (L-(a.nodes+1))) (.bool true)):=by
 have hp:=a.nodes_pos
 have hpd:=a.depth_pos
 have hn:=fun X=>node_c (H++X) i L d (zai hi) (by omega) (by omega)
 have h1:=fun X=>ih (H.set i (jb (L-1))++X) i (L-1) (d+1) (zai (zar hi)) (by omega) (by omega)
 rw [show L-1-a.nodes=L-(a.nodes+1) by omega] at h1
 unfold jb at hi hn h1 ⊢
 rw [show (Fm.f1 13 a).cells=[.int .u8 (13:Nat),.str .empty,.sl none 0 [],.sl none 1 [.int .u8 a.op,.str a.nmB,.sl none 0 [],.sl none a.sn a.sc]] from rfl]
 unfold Fm.cells at h1
 generalize a.op=ao at h1 ⊢
 generalize a.nmB=an at h1 ⊢
 generalize a.sn=asn at h1 ⊢
 generalize a.sc=asc at h1 ⊢
 refine zbg Tryz.E0 zaa Tryz.func139 (by kernel_rfl) rfl (Nat.le_of_ble_eq_true rfl) rfl fun hcl hbl=>?_
 (repeat' ((conv=>whnf);(first|(refine IfN.id ?_;first|refine IfN.not ?_|refine IfN.tt rfl ?_|refine IfN.ff rfl ?_|fail)|(refine EqN.id ?_;first|(refine zaf _ _ Cst.h Cst.h ?_ ?_;· omega)|refine zbq _ _ (by first|with_reducible rfl|exact Cst.h) (by first|with_reducible rfl|exact Cst.h) ?_|fail)|refine SideN.mk (by omega) ?_|(refine CallN.id ?_;first|refine CallN.det _ (named0_c _) ?_|refine CallN.det _ (terms_c _ _ _) ?_|fail)|refine za1 i _ _ _ _ hi rfl rfl (hn _) rfl ?_|refine SegN.mk _ (za6 rfl) ?_|fail)));conv=>whnf
 refine LoopN.rounds Tryz.E0 zaa 2 (by simp) ?_
 (repeat' ((conv=>whnf);(first|(refine IfN.id ?_;first|refine IfN.not ?_|refine IfN.tt rfl ?_|refine IfN.ff rfl ?_|fail)|(refine zaf _ _ Cst.h Cst.h ?_ ?_;· omega)|(refine SideN.mk ?_ ?_;· first|omega|exact List.cons_ne_nil _ _|fail)|refine za1 i _ _ _ _ (zar hi) (by simp) rfl (h1 _) (List.set_set ..) ?_|refine SegN.mk _ (za6 rfl) ?_|fail)));conv=>whnf
 exact za7 (by simp [Blk.below,zac,below]) trivial (Wk.refl _)
theorem form_f2_4 (a b:Fm) (iha:FormIH a) (ihb:FormIH b) (H:Heap) (i L d:Nat) (hi:H[i]? = some (jb L)) (hL:a.nodes+b.nodes+1≤L∧L≤400) (hd:d+(max a.depth b.depth+1)≤41):VCall Tryz.prog 139 [.ptr i 0,.agg (Fm.f2 4 a b).cells,.int .i64 d] H (setR H i (jb (L-(a.nodes+b.nodes+1))) (.bool true)):=by
 have hp:=a.nodes_pos
 have hpd:=a.depth_pos
 have hp2:=b.nodes_pos
 have hpd2:=b.depth_pos
 have hn:=fun X=>node_c (H++X) i L d (zai hi) (by omega) (by omega)
 have h1:=fun X=>iha (H.set i (jb (L-1))++X) i (L-1) (d+1) (zai (zar hi)) (by omega) (by omega)
 have h2:=fun X=>ihb (H.set i (jb (L-1-a.nodes))++X) i (L-1-a.nodes) (d+1) (zai (zar hi)) (by omega) (by omega)
 rw [show L-1-a.nodes-b.nodes=L-(a.nodes+b.nodes+1) by omega] at h2
 unfold jb at hi hn h1 h2 ⊢
 rw [show (Fm.f2 4 a b).cells=[.int .u8 (4:Nat),.str .empty,.sl none 0 [],.sl none 2 [.int .u8 a.op,.str a.nmB,.sl none 0 [],.sl none a.sn a.sc,.int .u8 b.op,.str b.nmB,.sl none 0 [],.sl none b.sn b.sc]] from rfl]
 unfold Fm.cells at h1 h2
 generalize a.op=ao at h1 ⊢
 generalize a.nmB=an at h1 ⊢
 generalize a.sn=asn at h1 ⊢
 generalize a.sc=asc at h1 ⊢
 generalize b.op=bo at h2 ⊢
 generalize b.nmB=bn at h2 ⊢
 generalize b.sn=bsn at h2 ⊢
 generalize b.sc=bsc at h2 ⊢
 refine zbg Tryz.E0 zaa Tryz.func139 (by kernel_rfl) rfl (Nat.le_of_ble_eq_true rfl) rfl fun hcl hbl=>?_
 (repeat' ((conv=>whnf);(first|(refine IfN.id ?_;first|refine IfN.not ?_|refine IfN.tt rfl ?_|refine IfN.ff rfl ?_|fail)|(refine EqN.id ?_;first|(refine zaf _ _ Cst.h Cst.h ?_ ?_;· omega)|refine zbq _ _ (by first|with_reducible rfl|exact Cst.h) (by first|with_reducible rfl|exact Cst.h) ?_|fail)|refine SideN.mk (by omega) ?_|(refine CallN.id ?_;first|refine CallN.det _ (named0_c _) ?_|refine CallN.det _ (terms_c _ _ _) ?_|fail)|refine za1 i _ _ _ _ hi rfl rfl (hn _) rfl ?_|refine SegN.mk _ (za6 rfl) ?_|fail)));conv=>whnf
 refine LoopN.rounds Tryz.E0 zaa 3 (by simp) ?_
 (repeat' ((conv=>whnf);(first|(refine IfN.id ?_;first|refine IfN.not ?_|refine IfN.tt rfl ?_|refine IfN.ff rfl ?_|fail)|(refine zaf _ _ Cst.h Cst.h ?_ ?_;· omega)|(refine SideN.mk ?_ ?_;· first|omega|exact List.cons_ne_nil _ _|fail)|refine za1 i _ _ _ _ (zar hi) (by simp) rfl (h1 _) (List.set_set ..) ?_|refine za1 i _ _ _ _ (zar hi) (by simp) rfl (h2 _) (List.set_set ..) ?_|refine SegN.mk _ (za6 rfl) ?_|fail)));conv=>whnf
 exact za7 (by simp [Blk.below,zac,below]) trivial (Wk.refl _)
theorem form_f2_5 (a b:Fm) (iha:FormIH a) (ihb:FormIH b) (H:Heap) (i L d:Nat) (hi:H[i]? = some (jb L)) (hL:a.nodes+b.nodes+1≤L∧L≤400) (hd:d+(max a.depth b.depth+1)≤41):VCall Tryz.prog 139 [.ptr i 0,.agg (Fm.f2 5 a b).cells,.int .i64 d] H (setR H i (jb (L-(a.nodes+b.nodes+1))) (.bool true)):=by
 have hp:=a.nodes_pos
 have hpd:=a.depth_pos
 have hp2:=b.nodes_pos
 have hpd2:=b.depth_pos
 have hn:=fun X=>node_c (H++X) i L d (zai hi) (by omega) (by omega)
 have h1:=fun X=>iha (H.set i (jb (L-1))++X) i (L-1) (d+1) (zai (zar hi)) (by omega) (by omega)
 have h2:=fun X=>ihb (H.set i (jb (L-1-a.nodes))++X) i (L-1-a.nodes) (d+1) (zai (zar hi)) (by omega) (by omega)
 rw [show L-1-a.nodes-b.nodes=L-(a.nodes+b.nodes+1) by omega] at h2
 unfold jb at hi hn h1 h2 ⊢
 rw [show (Fm.f2 5 a b).cells=[.int .u8 (5:Nat),.str .empty,.sl none 0 [],.sl none 2 [.int .u8 a.op,.str a.nmB,.sl none 0 [],.sl none a.sn a.sc,.int .u8 b.op,.str b.nmB,.sl none 0 [],.sl none b.sn b.sc]] from rfl]
 unfold Fm.cells at h1 h2
 generalize a.op=ao at h1 ⊢
 generalize a.nmB=an at h1 ⊢
 generalize a.sn=asn at h1 ⊢
 generalize a.sc=asc at h1 ⊢
 generalize b.op=bo at h2 ⊢
 generalize b.nmB=bn at h2 ⊢
 generalize b.sn=bsn at h2 ⊢
 generalize b.sc=bsc at h2 ⊢
 refine zbg Tryz.E0 zaa Tryz.func139 (by kernel_rfl) rfl (Nat.le_of_ble_eq_true rfl) rfl fun hcl hbl=>?_
 (repeat' ((conv=>whnf);(first|(refine IfN.id ?_;first|refine IfN.not ?_|refine IfN.tt rfl ?_|refine IfN.ff rfl ?_|fail)|(refine EqN.id ?_;first|(refine zaf _ _ Cst.h Cst.h ?_ ?_;· omega)|refine zbq _ _ (by first|with_reducible rfl|exact Cst.h) (by first|with_reducible rfl|exact Cst.h) ?_|fail)|refine SideN.mk (by omega) ?_|(refine CallN.id ?_;first|refine CallN.det _ (named0_c _) ?_|refine CallN.det _ (terms_c _ _ _) ?_|fail)|refine za1 i _ _ _ _ hi rfl rfl (hn _) rfl ?_|refine SegN.mk _ (za6 rfl) ?_|fail)));conv=>whnf
 refine LoopN.rounds Tryz.E0 zaa 3 (by simp) ?_
 (repeat' ((conv=>whnf);(first|(refine IfN.id ?_;first|refine IfN.not ?_|refine IfN.tt rfl ?_|refine IfN.ff rfl ?_|fail)|(refine zaf _ _ Cst.h Cst.h ?_ ?_;· omega)|(refine SideN.mk ?_ ?_;· first|omega|exact List.cons_ne_nil _ _|fail)|refine za1 i _ _ _ _ (zar hi) (by simp) rfl (h1 _) (List.set_set ..) ?_|refine za1 i _ _ _ _ (zar hi) (by simp) rfl (h2 _) (List.set_set ..) ?_|refine SegN.mk _ (za6 rfl) ?_|fail)));conv=>whnf
 exact za7 (by simp [Blk.below,zac,below]) trivial (Wk.refl _)
theorem form_f2_6 (a b:Fm) (iha:FormIH a) (ihb:FormIH b) (H:Heap) (i L d:Nat) (hi:H[i]? = some (jb L)) (hL:a.nodes+b.nodes+1≤L∧L≤400) (hd:d+(max a.depth b.depth+1)≤41):VCall Tryz.prog 139 [.ptr i 0,.agg (Fm.f2 6 a b).cells,.int .i64 d] H (setR H i (jb (L-(a.nodes+b.nodes+1))) (.bool true)):=by
 have hp:=a.nodes_pos
 have hpd:=a.depth_pos
 have hp2:=b.nodes_pos
 have hpd2:=b.depth_pos
 have hn:=fun X=>node_c (H++X) i L d (zai hi) (by omega) (by omega)
 have h1:=fun X=>iha (H.set i (jb (L-1))++X) i (L-1) (d+1) (zai (zar hi)) (by omega) (by omega)
 have h2:=fun X=>ihb (H.set i (jb (L-1-a.nodes))++X) i (L-1-a.nodes) (d+1) (zai (zar hi)) (by omega) (by omega)
 rw [show L-1-a.nodes-b.nodes=L-(a.nodes+b.nodes+1) by omega] at h2
 unfold jb at hi hn h1 h2 ⊢
 rw [show (Fm.f2 6 a b).cells=[.int .u8 (6:Nat),.str .empty,.sl none 0 [],.sl none 2 [.int .u8 a.op,.str a.nmB,.sl none 0 [],.sl none a.sn a.sc,.int .u8 b.op,.str b.nmB,.sl none 0 [],.sl none b.sn b.sc]] from rfl]
 unfold Fm.cells at h1 h2
 generalize a.op=ao at h1 ⊢
 generalize a.nmB=an at h1 ⊢
 generalize a.sn=asn at h1 ⊢
 generalize a.sc=asc at h1 ⊢
 generalize b.op=bo at h2 ⊢
 generalize b.nmB=bn at h2 ⊢
 generalize b.sn=bsn at h2 ⊢
 generalize b.sc=bsc at h2 ⊢
 refine zbg Tryz.E0 zaa Tryz.func139 (by kernel_rfl) rfl (Nat.le_of_ble_eq_true rfl) rfl fun hcl hbl=>?_
 (repeat' ((conv=>whnf);(first|(refine IfN.id ?_;first|refine IfN.not ?_|refine IfN.tt rfl ?_|refine IfN.ff rfl ?_|fail)|(refine EqN.id ?_;first|(refine zaf _ _ Cst.h Cst.h ?_ ?_;· omega)|refine zbq _ _ (by first|with_reducible rfl|exact Cst.h) (by first|with_reducible rfl|exact Cst.h) ?_|fail)|refine SideN.mk (by omega) ?_|(refine CallN.id ?_;first|refine CallN.det _ (named0_c _) ?_|refine CallN.det _ (terms_c _ _ _) ?_|fail)|refine za1 i _ _ _ _ hi rfl rfl (hn _) rfl ?_|refine SegN.mk _ (za6 rfl) ?_|fail)));conv=>whnf
 refine LoopN.rounds Tryz.E0 zaa 3 (by simp) ?_
 (repeat' ((conv=>whnf);(first|(refine IfN.id ?_;first|refine IfN.not ?_|refine IfN.tt rfl ?_|refine IfN.ff rfl ?_|fail)|(refine zaf _ _ Cst.h Cst.h ?_ ?_;· omega)|(refine SideN.mk ?_ ?_;· first|omega|exact List.cons_ne_nil _ _|fail)|refine za1 i _ _ _ _ (zar hi) (by simp) rfl (h1 _) (List.set_set ..) ?_|refine za1 i _ _ _ _ (zar hi) (by simp) rfl (h2 _) (List.set_set ..) ?_|refine SegN.mk _ (za6 rfl) ?_|fail)));conv=>whnf
 exact za7 (by simp [Blk.below,zac,below]) trivial (Wk.refl _)
theorem form_f2_7 (a b:Fm) (iha:FormIH a) (ihb:FormIH b) (H:Heap) (i L d:Nat) (hi:H[i]? = some (jb L)) (hL:a.nodes+b.nodes+1≤L∧L≤400) (hd:d+(max a.depth b.depth+1)≤41):VCall Tryz.prog 139 [.ptr i 0,.agg (Fm.f2 7 a b).cells,.int .i64 d] H (setR H i (jb (L-(a.nodes+b.nodes+1))) (.bool true)):=by
 have hp:=a.nodes_pos
 have hpd:=a.depth_pos
 have hp2:=b.nodes_pos
 have hpd2:=b.depth_pos
 have hn:=fun X=>node_c (H++X) i L d (zai hi) (by omega) (by omega)
 have h1:=fun X=>iha (H.set i (jb (L-1))++X) i (L-1) (d+1) (zai (zar hi)) (by omega) (by omega)
 have h2:=fun X=>ihb (H.set i (jb (L-1-a.nodes))++X) i (L-1-a.nodes) (d+1) (zai (zar hi)) (by omega) (by omega)
 rw [show L-1-a.nodes-b.nodes=L-(a.nodes+b.nodes+1) by omega] at h2
 unfold jb at hi hn h1 h2 ⊢
 rw [show (Fm.f2 7 a b).cells=[.int .u8 (7:Nat),.str .empty,.sl none 0 [],.sl none 2 [.int .u8 a.op,.str a.nmB,.sl none 0 [],.sl none a.sn a.sc,.int .u8 b.op,.str b.nmB,.sl none 0 [],.sl none b.sn b.sc]] from rfl]
 unfold Fm.cells at h1 h2
 generalize a.op=ao at h1 ⊢
 generalize a.nmB=an at h1 ⊢
 generalize a.sn=asn at h1 ⊢
 generalize a.sc=asc at h1 ⊢
 generalize b.op=bo at h2 ⊢
 generalize b.nmB=bn at h2 ⊢
 generalize b.sn=bsn at h2 ⊢
 generalize b.sc=bsc at h2 ⊢
 refine zbg Tryz.E0 zaa Tryz.func139 (by kernel_rfl) rfl (Nat.le_of_ble_eq_true rfl) rfl fun hcl hbl=>?_
 (repeat' ((conv=>whnf);(first|(refine IfN.id ?_;first|refine IfN.not ?_|refine IfN.tt rfl ?_|refine IfN.ff rfl ?_|fail)|(refine EqN.id ?_;first|(refine zaf _ _ Cst.h Cst.h ?_ ?_;· omega)|refine zbq _ _ (by first|with_reducible rfl|exact Cst.h) (by first|with_reducible rfl|exact Cst.h) ?_|fail)|refine SideN.mk (by omega) ?_|(refine CallN.id ?_;first|refine CallN.det _ (named0_c _) ?_|refine CallN.det _ (terms_c _ _ _) ?_|fail)|refine za1 i _ _ _ _ hi rfl rfl (hn _) rfl ?_|refine SegN.mk _ (za6 rfl) ?_|fail)));conv=>whnf
 refine LoopN.rounds Tryz.E0 zaa 3 (by simp) ?_
 (repeat' ((conv=>whnf);(first|(refine IfN.id ?_;first|refine IfN.not ?_|refine IfN.tt rfl ?_|refine IfN.ff rfl ?_|fail)|(refine zaf _ _ Cst.h Cst.h ?_ ?_;· omega)|(refine SideN.mk ?_ ?_;· first|omega|exact List.cons_ne_nil _ _|fail)|refine za1 i _ _ _ _ (zar hi) (by simp) rfl (h1 _) (List.set_set ..) ?_|refine za1 i _ _ _ _ (zar hi) (by simp) rfl (h2 _) (List.set_set ..) ?_|refine SegN.mk _ (za6 rfl) ?_|fail)));conv=>whnf
 exact za7 (by simp [Blk.below,zac,below]) trivial (Wk.refl _)
theorem form_f2_14 (a b:Fm) (iha:FormIH a) (ihb:FormIH b) (H:Heap) (i L d:Nat) (hi:H[i]? = some (jb L)) (hL:a.nodes+b.nodes+1≤L∧L≤400) (hd:d+(max a.depth b.depth+1)≤41):VCall Tryz.prog 139 [.ptr i 0,.agg (Fm.f2 14 a b).cells,.int .i64 d] H (setR H i (jb (L-(a.nodes+b.nodes+1))) (.bool true)):=by
 have hp:=a.nodes_pos
 have hpd:=a.depth_pos
 have hp2:=b.nodes_pos
 have hpd2:=b.depth_pos
 have hn:=fun X=>node_c (H++X) i L d (zai hi) (by omega) (by omega)
 have h1:=fun X=>iha (H.set i (jb (L-1))++X) i (L-1) (d+1) (zai (zar hi)) (by omega) (by omega)
 have h2:=fun X=>ihb (H.set i (jb (L-1-a.nodes))++X) i (L-1-a.nodes) (d+1) (zai (zar hi)) (by omega) (by omega)
 rw [show L-1-a.nodes-b.nodes=L-(a.nodes+b.nodes+1) by omega] at h2
 unfold jb at hi hn h1 h2 ⊢
 rw [show (Fm.f2 14 a b).cells=[.int .u8 (14:Nat),.str .empty,.sl none 0 [],.sl none 2 [.int .u8 a.op,.str a.nmB,.sl none 0 [],.sl none a.sn a.sc,.int .u8 b.op,.str b.nmB,.sl none 0 [],.sl none b.sn b.sc]] from rfl]
 unfold Fm.cells at h1 h2
 generalize a.op=ao at h1 ⊢
 generalize a.nmB=an at h1 ⊢
 generalize a.sn=asn at h1 ⊢
 generalize a.sc=asc at h1 ⊢
 generalize b.op=bo at h2 ⊢
 generalize b.nmB=bn at h2 ⊢
 generalize b.sn=bsn at h2 ⊢
 generalize b.sc=bsc at h2 ⊢
 refine zbg Tryz.E0 zaa Tryz.func139 (by kernel_rfl) rfl (Nat.le_of_ble_eq_true rfl) rfl fun hcl hbl=>?_
 (repeat' ((conv=>whnf);(first|(refine IfN.id ?_;first|refine IfN.not ?_|refine IfN.tt rfl ?_|refine IfN.ff rfl ?_|fail)|(refine EqN.id ?_;first|(refine zaf _ _ Cst.h Cst.h ?_ ?_;· omega)|refine zbq _ _ (by first|with_reducible rfl|exact Cst.h) (by first|with_reducible rfl|exact Cst.h) ?_|fail)|refine SideN.mk (by omega) ?_|(refine CallN.id ?_;first|refine CallN.det _ (named0_c _) ?_|refine CallN.det _ (terms_c _ _ _) ?_|fail)|refine za1 i _ _ _ _ hi rfl rfl (hn _) rfl ?_|refine SegN.mk _ (za6 rfl) ?_|fail)));conv=>whnf
 refine LoopN.rounds Tryz.E0 zaa 3 (by simp) ?_
 (repeat' ((conv=>whnf);(first|(refine IfN.id ?_;first|refine IfN.not ?_|refine IfN.tt rfl ?_|refine IfN.ff rfl ?_|fail)|(refine zaf _ _ Cst.h Cst.h ?_ ?_;· omega)|(refine SideN.mk ?_ ?_;· first|omega|exact List.cons_ne_nil _ _|fail)|refine za1 i _ _ _ _ (zar hi) (by simp) rfl (h1 _) (List.set_set ..) ?_|refine za1 i _ _ _ _ (zar hi) (by simp) rfl (h2 _) (List.set_set ..) ?_|refine SegN.mk _ (za6 rfl) ?_|fail)));conv=>whnf
 exact za7 (by simp [Blk.below,zac,below]) trivial (Wk.refl _)
theorem form_c:∀ f:Fm,f.Ok→FormIH f
 | .at c,h=>fun H i L d hi hL hd=>form_at c h H i L d hi hL (by simp only [Fm.depth] at hd;omega)
 | .fa,_=>fun H i L d hi hL hd=>form_fa H i L d hi hL (by simp only [Fm.depth] at hd;omega)
 | .f1 k a,h=>by
   have ih:=form_c a h.2
   rcases h.1 with rfl|rfl|rfl|rfl|rfl
   ·exact form_f1_3 a ih
   ·exact form_f1_10 a ih
   ·exact form_f1_11 a ih
   ·exact form_f1_12 a ih
   ·exact form_f1_13 a ih
 | .f2 k a b,h=>by
   have iha:=form_c a h.2.1
   have ihb:=form_c b h.2.2
   rcases h.1 with rfl|rfl|rfl|rfl|rfl
   ·exact form_f2_4 a b iha ihb
   ·exact form_f2_5 a b iha ihb
   ·exact form_f2_6 a b iha ihb
   ·exact form_f2_7 a b iha ihb
   ·exact form_f2_14 a b iha ihb
theorem synRight_c (f:Fm) (hf:f.Ok) (hn:f.Small) (H:Heap):VDet Tryz.prog 100 [.agg f.cells] H (.bool true):=by
 have h1:=form_c f hf (H++[.box 50 f.cells,jb 400]) (H.length+1) 400 1 (zam rfl) ⟨hn.1,Nat.le_refl _⟩ (by have:=hn.2;omega)
 unfold jb at h1
 unfold Fm.cells at h1 ⊢
 refine zag Tryz.E0 zaa Tryz.func100 (by kernel_rfl) rfl (Nat.le_of_ble_eq_true rfl) rfl fun hcl hbl=>?_
 (repeat' ((conv=>whnf);(first|refine CallN.setL 1 _ _ _ rfl rfl h1 rfl ?_|fail)));conv=>whnf
 exact eT trivial
def Fm.Temp:Fm→Prop
 | .at _=>True
 | .fa=>True
 | .f1 k a=>(k=3∨k=12∨k=13)∧a.Temp
 | .f2 k a b=>is2 k∧a.Temp∧b.Temp
theorem temp_at (c:UInt8) (H:Heap):VDet Tryz.prog 101 [.agg (Fm.at c).cells] H (.bool true):=by
 unfold Fm.cells
 simp only [Fm.op,Fm.nmB,Fm.sn,Fm.sc]
 refine zag Tryz.E0 zaa Tryz.func101 (by kernel_rfl) rfl (Nat.le_of_ble_eq_true rfl) rfl fun hcl hbl=>?_
 (repeat' ((conv=>whnf);(first|(refine IfN.id ?_;first|refine IfN.not ?_|refine IfN.ff rfl ?_|fail)|fail)));conv=>whnf
 refine LoopN.rounds Tryz.E0 zaa 1 rfl ?_
 (repeat' ((conv=>whnf);(first|refine IfN.ff rfl ?_|fail)));conv=>whnf
 exact eT trivial
theorem temp_fa (H:Heap):VDet Tryz.prog 101 [.agg Fm.fa.cells] H (.bool true):=by
 unfold Fm.cells
 simp only [Fm.op,Fm.nmB,Fm.sn,Fm.sc]
 refine zag Tryz.E0 zaa Tryz.func101 (by kernel_rfl) rfl (Nat.le_of_ble_eq_true rfl) rfl fun hcl hbl=>?_
 (repeat' ((conv=>whnf);(first|(refine IfN.id ?_;first|refine IfN.not ?_|refine IfN.ff rfl ?_|fail)|fail)));conv=>whnf
 refine LoopN.rounds Tryz.E0 zaa 1 rfl ?_
 (repeat' ((conv=>whnf);(first|refine IfN.ff rfl ?_|fail)));conv=>whnf
 exact eT trivial
theorem temp_f1_3 (a:Fm) (h1:∀ H,VDet Tryz.prog 101 [.agg a.cells] H (.bool true)) (H:Heap):VDet Tryz.prog 101 [.agg (Fm.f1 3 a).cells] H (.bool true):=by
 rw [show (Fm.f1 3 a).cells=[.int .u8 (3:Nat),.str .empty,.sl none 0 [],.sl none 1 [.int .u8 a.op,.str a.nmB,.sl none 0 [],.sl none a.sn a.sc]] from rfl]
 unfold Fm.cells at h1
 generalize a.op=ao at h1 ⊢
 generalize a.nmB=an at h1 ⊢
 generalize a.sn=asn at h1 ⊢
 generalize a.sc=asc at h1 ⊢
 refine zag Tryz.E0 zaa Tryz.func101 (by kernel_rfl) rfl (Nat.le_of_ble_eq_true rfl) rfl fun hcl hbl=>?_
 (repeat' ((conv=>whnf);(first|(refine IfN.id ?_;first|refine IfN.not ?_|refine IfN.ff rfl ?_|fail)|fail)));conv=>whnf
 refine LoopN.rounds Tryz.E0 zaa 2 rfl ?_
 (repeat' ((conv=>whnf);(first|(refine IfN.id ?_;first|refine IfN.not ?_|refine IfN.tt rfl ?_|refine IfN.ff rfl ?_|fail)|(refine zaf _ _ Cst.h Cst.h ?_ ?_;· omega)|(refine SideN.mk ?_ ?_;· first|omega|exact List.cons_ne_nil _ _|fail)|refine CallN.det _ (h1 _) ?_|refine SegN.mk _ (za6 rfl) ?_|fail)));conv=>whnf
 exact eT trivial
theorem temp_f1_12 (a:Fm) (h1:∀ H,VDet Tryz.prog 101 [.agg a.cells] H (.bool true)) (H:Heap):VDet Tryz.prog 101 [.agg (Fm.f1 12 a).cells] H (.bool true):=by
 rw [show (Fm.f1 12 a).cells=[.int .u8 (12:Nat),.str .empty,.sl none 0 [],.sl none 1 [.int .u8 a.op,.str a.nmB,.sl none 0 [],.sl none a.sn a.sc]] from rfl]
 unfold Fm.cells at h1
 generalize a.op=ao at h1 ⊢
 generalize a.nmB=an at h1 ⊢
 generalize a.sn=asn at h1 ⊢
 generalize a.sc=asc at h1 ⊢
 refine zag Tryz.E0 zaa Tryz.func101 (by kernel_rfl) rfl (Nat.le_of_ble_eq_true rfl) rfl fun hcl hbl=>?_
 (repeat' ((conv=>whnf);(first|(refine IfN.id ?_;first|refine IfN.not ?_|refine IfN.tt rfl ?_|refine IfN.ff rfl ?_|fail)|fail)));conv=>whnf
 refine LoopN.rounds Tryz.E0 zaa 2 rfl ?_
 (repeat' ((conv=>whnf);(first|(refine IfN.id ?_;first|refine IfN.not ?_|refine IfN.tt rfl ?_|refine IfN.ff rfl ?_|fail)|(refine zaf _ _ Cst.h Cst.h ?_ ?_;· omega)|(refine SideN.mk ?_ ?_;· first|omega|exact List.cons_ne_nil _ _|fail)|refine CallN.det _ (h1 _) ?_|refine SegN.mk _ (za6 rfl) ?_|fail)));conv=>whnf
 exact eT trivial
theorem temp_f1_13 (a:Fm) (h1:∀ H,VDet Tryz.prog 101 [.agg a.cells] H (.bool true)) (H:Heap):VDet Tryz.prog 101 [.agg (Fm.f1 13 a).cells] H (.bool true):=by
 rw [show (Fm.f1 13 a).cells=[.int .u8 (13:Nat),.str .empty,.sl none 0 [],.sl none 1 [.int .u8 a.op,.str a.nmB,.sl none 0 [],.sl none a.sn a.sc]] from rfl]
 unfold Fm.cells at h1
 generalize a.op=ao at h1 ⊢
 generalize a.nmB=an at h1 ⊢
 generalize a.sn=asn at h1 ⊢
 generalize a.sc=asc at h1 ⊢
 refine zag Tryz.E0 zaa Tryz.func101 (by kernel_rfl) rfl (Nat.le_of_ble_eq_true rfl) rfl fun hcl hbl=>?_
 (repeat' ((conv=>whnf);(first|(refine IfN.id ?_;first|refine IfN.not ?_|refine IfN.tt rfl ?_|refine IfN.ff rfl ?_|fail)|fail)));conv=>whnf
 refine LoopN.rounds Tryz.E0 zaa 2 rfl ?_
 (repeat' ((conv=>whnf);(first|(refine IfN.id ?_;first|refine IfN.not ?_|refine IfN.tt rfl ?_|refine IfN.ff rfl ?_|fail)|(refine zaf _ _ Cst.h Cst.h ?_ ?_;· omega)|(refine SideN.mk ?_ ?_;· first|omega|exact List.cons_ne_nil _ _|fail)|refine CallN.det _ (h1 _) ?_|refine SegN.mk _ (za6 rfl) ?_|fail)));conv=>whnf
 exact eT trivial
theorem temp_f2_4 (a b:Fm) (h1:∀ H,VDet Tryz.prog 101 [.agg a.cells] H (.bool true)) (h2:∀ H,VDet Tryz.prog 101 [.agg b.cells] H (.bool true)) (H:Heap):VDet Tryz.prog 101 [.agg (Fm.f2 4 a b).cells] H (.bool true):=by
 rw [show (Fm.f2 4 a b).cells=[.int .u8 (4:Nat),.str .empty,.sl none 0 [],.sl none 2 [.int .u8 a.op,.str a.nmB,.sl none 0 [],.sl none a.sn a.sc,.int .u8 b.op,.str b.nmB,.sl none 0 [],.sl none b.sn b.sc]] from rfl]
 unfold Fm.cells at h1 h2
 generalize a.op=ao at h1 ⊢
 generalize a.nmB=an at h1 ⊢
 generalize a.sn=asn at h1 ⊢
 generalize a.sc=asc at h1 ⊢
 generalize b.op=bo at h2 ⊢
 generalize b.nmB=bn at h2 ⊢
 generalize b.sn=bsn at h2 ⊢
 generalize b.sc=bsc at h2 ⊢
 refine zag Tryz.E0 zaa Tryz.func101 (by kernel_rfl) rfl (Nat.le_of_ble_eq_true rfl) rfl fun hcl hbl=>?_
 (repeat' ((conv=>whnf);(first|(refine IfN.id ?_;first|refine IfN.not ?_|refine IfN.ff rfl ?_|fail)|fail)));conv=>whnf
 refine LoopN.rounds Tryz.E0 zaa 3 rfl ?_
 (repeat' ((conv=>whnf);(first|(refine IfN.id ?_;first|refine IfN.not ?_|refine IfN.tt rfl ?_|refine IfN.ff rfl ?_|fail)|(refine zaf _ _ Cst.h Cst.h ?_ ?_;· omega)|(refine SideN.mk ?_ ?_;· first|omega|exact List.cons_ne_nil _ _|fail)|(refine CallN.id ?_;first|refine CallN.det _ (h1 _) ?_|refine CallN.det _ (h2 _) ?_|fail)|refine SegN.mk _ (za6 rfl) ?_|fail)));conv=>whnf
 exact eT trivial
theorem temp_f2_5 (a b:Fm) (h1:∀ H,VDet Tryz.prog 101 [.agg a.cells] H (.bool true)) (h2:∀ H,VDet Tryz.prog 101 [.agg b.cells] H (.bool true)) (H:Heap):VDet Tryz.prog 101 [.agg (Fm.f2 5 a b).cells] H (.bool true):=by
 rw [show (Fm.f2 5 a b).cells=[.int .u8 (5:Nat),.str .empty,.sl none 0 [],.sl none 2 [.int .u8 a.op,.str a.nmB,.sl none 0 [],.sl none a.sn a.sc,.int .u8 b.op,.str b.nmB,.sl none 0 [],.sl none b.sn b.sc]] from rfl]
 unfold Fm.cells at h1 h2
 generalize a.op=ao at h1 ⊢
 generalize a.nmB=an at h1 ⊢
 generalize a.sn=asn at h1 ⊢
 generalize a.sc=asc at h1 ⊢
 generalize b.op=bo at h2 ⊢
 generalize b.nmB=bn at h2 ⊢
 generalize b.sn=bsn at h2 ⊢
 generalize b.sc=bsc at h2 ⊢
 refine zag Tryz.E0 zaa Tryz.func101 (by kernel_rfl) rfl (Nat.le_of_ble_eq_true rfl) rfl fun hcl hbl=>?_
 (repeat' ((conv=>whnf);(first|(refine IfN.id ?_;first|refine IfN.not ?_|refine IfN.ff rfl ?_|fail)|fail)));conv=>whnf
 refine LoopN.rounds Tryz.E0 zaa 3 rfl ?_
 (repeat' ((conv=>whnf);(first|(refine IfN.id ?_;first|refine IfN.not ?_|refine IfN.tt rfl ?_|refine IfN.ff rfl ?_|fail)|(refine zaf _ _ Cst.h Cst.h ?_ ?_;· omega)|(refine SideN.mk ?_ ?_;· first|omega|exact List.cons_ne_nil _ _|fail)|(refine CallN.id ?_;first|refine CallN.det _ (h1 _) ?_|refine CallN.det _ (h2 _) ?_|fail)|refine SegN.mk _ (za6 rfl) ?_|fail)));conv=>whnf
 exact eT trivial
theorem temp_f2_6 (a b:Fm) (h1:∀ H,VDet Tryz.prog 101 [.agg a.cells] H (.bool true)) (h2:∀ H,VDet Tryz.prog 101 [.agg b.cells] H (.bool true)) (H:Heap):VDet Tryz.prog 101 [.agg (Fm.f2 6 a b).cells] H (.bool true):=by
 rw [show (Fm.f2 6 a b).cells=[.int .u8 (6:Nat),.str .empty,.sl none 0 [],.sl none 2 [.int .u8 a.op,.str a.nmB,.sl none 0 [],.sl none a.sn a.sc,.int .u8 b.op,.str b.nmB,.sl none 0 [],.sl none b.sn b.sc]] from rfl]
 unfold Fm.cells at h1 h2
 generalize a.op=ao at h1 ⊢
 generalize a.nmB=an at h1 ⊢
 generalize a.sn=asn at h1 ⊢
 generalize a.sc=asc at h1 ⊢
 generalize b.op=bo at h2 ⊢
 generalize b.nmB=bn at h2 ⊢
 generalize b.sn=bsn at h2 ⊢
 generalize b.sc=bsc at h2 ⊢
 refine zag Tryz.E0 zaa Tryz.func101 (by kernel_rfl) rfl (Nat.le_of_ble_eq_true rfl) rfl fun hcl hbl=>?_
 (repeat' ((conv=>whnf);(first|(refine IfN.id ?_;first|refine IfN.not ?_|refine IfN.ff rfl ?_|fail)|fail)));conv=>whnf
 refine LoopN.rounds Tryz.E0 zaa 3 rfl ?_
 (repeat' ((conv=>whnf);(first|(refine IfN.id ?_;first|refine IfN.not ?_|refine IfN.tt rfl ?_|refine IfN.ff rfl ?_|fail)|(refine zaf _ _ Cst.h Cst.h ?_ ?_;· omega)|(refine SideN.mk ?_ ?_;· first|omega|exact List.cons_ne_nil _ _|fail)|(refine CallN.id ?_;first|refine CallN.det _ (h1 _) ?_|refine CallN.det _ (h2 _) ?_|fail)|refine SegN.mk _ (za6 rfl) ?_|fail)));conv=>whnf
 exact eT trivial
theorem temp_f2_7 (a b:Fm) (h1:∀ H,VDet Tryz.prog 101 [.agg a.cells] H (.bool true)) (h2:∀ H,VDet Tryz.prog 101 [.agg b.cells] H (.bool true)) (H:Heap):VDet Tryz.prog 101 [.agg (Fm.f2 7 a b).cells] H (.bool true):=by
 rw [show (Fm.f2 7 a b).cells=[.int .u8 (7:Nat),.str .empty,.sl none 0 [],.sl none 2 [.int .u8 a.op,.str a.nmB,.sl none 0 [],.sl none a.sn a.sc,.int .u8 b.op,.str b.nmB,.sl none 0 [],.sl none b.sn b.sc]] from rfl]
 unfold Fm.cells at h1 h2
 generalize a.op=ao at h1 ⊢
 generalize a.nmB=an at h1 ⊢
 generalize a.sn=asn at h1 ⊢
 generalize a.sc=asc at h1 ⊢
 generalize b.op=bo at h2 ⊢
 generalize b.nmB=bn at h2 ⊢
 generalize b.sn=bsn at h2 ⊢
 generalize b.sc=bsc at h2 ⊢
 refine zag Tryz.E0 zaa Tryz.func101 (by kernel_rfl) rfl (Nat.le_of_ble_eq_true rfl) rfl fun hcl hbl=>?_
 (repeat' ((conv=>whnf);(first|(refine IfN.id ?_;first|refine IfN.not ?_|refine IfN.ff rfl ?_|fail)|fail)));conv=>whnf
 refine LoopN.rounds Tryz.E0 zaa 3 rfl ?_
 (repeat' ((conv=>whnf);(first|(refine IfN.id ?_;first|refine IfN.not ?_|refine IfN.tt rfl ?_|refine IfN.ff rfl ?_|fail)|(refine zaf _ _ Cst.h Cst.h ?_ ?_;· omega)|(refine SideN.mk ?_ ?_;· first|omega|exact List.cons_ne_nil _ _|fail)|(refine CallN.id ?_;first|refine CallN.det _ (h1 _) ?_|refine CallN.det _ (h2 _) ?_|fail)|refine SegN.mk _ (za6 rfl) ?_|fail)));conv=>whnf
 exact eT trivial
theorem temp_f2_14 (a b:Fm) (h1:∀ H,VDet Tryz.prog 101 [.agg a.cells] H (.bool true)) (h2:∀ H,VDet Tryz.prog 101 [.agg b.cells] H (.bool true)) (H:Heap):VDet Tryz.prog 101 [.agg (Fm.f2 14 a b).cells] H (.bool true):=by
 rw [show (Fm.f2 14 a b).cells=[.int .u8 (14:Nat),.str .empty,.sl none 0 [],.sl none 2 [.int .u8 a.op,.str a.nmB,.sl none 0 [],.sl none a.sn a.sc,.int .u8 b.op,.str b.nmB,.sl none 0 [],.sl none b.sn b.sc]] from rfl]
 unfold Fm.cells at h1 h2
 generalize a.op=ao at h1 ⊢
 generalize a.nmB=an at h1 ⊢
 generalize a.sn=asn at h1 ⊢
 generalize a.sc=asc at h1 ⊢
 generalize b.op=bo at h2 ⊢
 generalize b.nmB=bn at h2 ⊢
 generalize b.sn=bsn at h2 ⊢
 generalize b.sc=bsc at h2 ⊢
 refine zag Tryz.E0 zaa Tryz.func101 (by kernel_rfl) rfl (Nat.le_of_ble_eq_true rfl) rfl fun hcl hbl=>?_
 (repeat' ((conv=>whnf);(first|(refine IfN.id ?_;first|refine IfN.not ?_|refine IfN.tt rfl ?_|refine IfN.ff rfl ?_|fail)|fail)));conv=>whnf
 refine LoopN.rounds Tryz.E0 zaa 3 rfl ?_
 (repeat' ((conv=>whnf);(first|(refine IfN.id ?_;first|refine IfN.not ?_|refine IfN.tt rfl ?_|refine IfN.ff rfl ?_|fail)|(refine zaf _ _ Cst.h Cst.h ?_ ?_;· omega)|(refine SideN.mk ?_ ?_;· first|omega|exact List.cons_ne_nil _ _|fail)|(refine CallN.id ?_;first|refine CallN.det _ (h1 _) ?_|refine CallN.det _ (h2 _) ?_|fail)|refine SegN.mk _ (za6 rfl) ?_|fail)));conv=>whnf
 exact eT trivial
theorem temp_c:∀ f:Fm,f.Temp→∀ H,VDet Tryz.prog 101 [.agg f.cells] H (.bool true)
 | .at c,_=>temp_at c
 | .fa,_=>temp_fa
 | .f1 k a,h=>by
   have ih:=temp_c a h.2
   rcases h.1 with rfl|rfl|rfl
   ·exact temp_f1_3 a ih
   ·exact temp_f1_12 a ih
   ·exact temp_f1_13 a ih
 | .f2 k a b,h=>by
   have iha:=temp_c a h.2.1
   have ihb:=temp_c b h.2.2
   rcases h.1 with rfl|rfl|rfl|rfl|rfl
   ·exact temp_f2_4 a b iha ihb
   ·exact temp_f2_5 a b iha ihb
   ·exact temp_f2_6 a b iha ihb
   ·exact temp_f2_7 a b iha ihb
   ·exact temp_f2_14 a b iha ihb
theorem right_c (f:Fm) (hf:f.Ok) (ht:f.Temp) (hn:f.Small) (H:Heap):VDet Tryz.prog 68 [.agg f.cells] H (.bool true):=by
 have h1:=fun H=>synRight_c f hf hn H
 have h2:=fun H=>temp_c f ht H
 unfold Fm.cells at h1 h2 ⊢
 refine zag Tryz.E0 zaa Tryz.func68 (by kernel_rfl) rfl (Nat.le_of_ble_eq_true rfl) rfl fun hcl hbl=>?_
 (repeat' ((conv=>whnf);(first|refine IfN.tt rfl ?_|(refine CallN.id ?_;first|refine CallN.det _ (h1 _) ?_|refine CallN.det _ (h2 _) ?_|fail)|fail)));conv=>whnf
 exact eT trivial
def fnd (c:UInt8):List (UInt8×Nat)→Option Nat
 | []=>none
 | p::l=>match c==p.1 with
   | true=>some p.2
   | false=>fnd c l
def fk (l:List (UInt8×Nat)):List AV:=l.map fun p=>.str (nm p.1)
def fv (l:List (UInt8×Nat)):List AV:=l.map fun p=>.int .i64 p.2
abbrev seq:AV→AV→Option Bool:=eqV Tryz.kn Tryz.T 20 9
theorem seq_nm (c d:UInt8):seq (.str (nm c)) (.str (nm d))=some (c==d):=by
 rw [← nm_eq];rfl
theorem mfind_nm (c:UInt8):∀ l:List (UInt8×Nat),(fnd c l=none→mfind seq (.str (nm c)) (fk l)=some none)∧(∀ v,fnd c l=some v→∃ j,mfind seq (.str (nm c)) (fk l)=some (some j)∧(fv l)[j]? = some (.int .i64 v))
 | []=>⟨fun _=>rfl,fun v h=>by cases h⟩
 | p::l=>by
   obtain ⟨i1,i2⟩:=mfind_nm c l
   simp only [fnd,fk,fv,List.map_cons,mfind,seq_nm]
   cases hc:c==p.1 with
   | true=>exact ⟨fun h=>absurd h (by simp),fun v h=>⟨0,rfl,by simp only [Option.some.injEq] at h;simp [h]⟩⟩
   | false =>
     refine ⟨fun h=>?_,fun v h=>?_⟩
     ·have:=i1 h
      unfold fk at this
      simp only [this]
     ·obtain ⟨j,h1,h2⟩:=i2 v h
      unfold fk at h1
      exact ⟨j+1,by simp only [h1],by simpa [fv] using h2⟩
def evT (t:Tr):Fm→Nat
 | .at c=>(fnd c t.fs).getD 0
 | .fa=>0
 | .f1 k a=>if k=3 then nt (every t.n) (evT t a) else if k=12 then befN t.n t.lp (evT t a) else if k=13 then alN t.n t.lp (evT t a) else 0
 | .f2 k a b=>if k=4 then evT t a &&& evT t b else if k=5 then evT t a ||| evT t b else if k=6 then nt (every t.n) (evT t a) ||| evT t b else if k=7 then nt (every t.n) (evT t a ^^^ evT t b) else if k=14 then unN t.n t.lp (evT t a) (evT t b) else 0
def miss (t:Tr):Fm→Bool
 | .at c=>(fnd c t.fs).isNone
 | .fa=>false
 | .f1 _ a=>miss t a
 | .f2 _ a b=>miss t a || miss t b
theorem every_lt2 (n:Nat):every n<2 ^ n:=by
 unfold every
 rw [Nat.shiftLeft_eq]
 have:=Nat.two_pow_pos n
 omega
theorem nt_lt {n e a:Nat} (he:e<2 ^ n):nt e a<2 ^ n:=Nat.xor_lt_two_pow he (Nat.lt_of_le_of_lt Nat.and_le_left he)
theorem fnd_lt {c:UInt8} {n:Nat}:∀ {l:List (UInt8×Nat)},(∀ p∈l,p.2<2 ^ n)→∀ v,fnd c l=some v→v<2 ^ n
 | [],_,v,h=>by cases h
 | p::l,hl,v,h=>by
   simp only [fnd] at h
   split at h
   ·simp only [Option.some.injEq] at h;exact h▸hl p (List.mem_cons_self ..)
   ·exact fnd_lt (fun q hq=>hl q (List.mem_cons_of_mem _ hq)) v h
theorem Tr.Ok.masks {t:Tr} (h:t.Ok):∀ p∈t.fs,p.2<2 ^ t.n:=fun p hp=>by
 obtain ⟨i,hi,rfl⟩:=List.getElem_of_mem hp
 have:=h.mask i hi
 simpa [ft,hi] using this
theorem itA_lt {n lp a:Nat} (ha:a<2 ^ n):∀ j,itN (alF n lp a) j (every n)<2 ^ n
 | 0=>every_lt2 n
 | _+1=>Nat.lt_of_le_of_lt Nat.and_le_left ha
theorem itU_lt {n lp a b:Nat} (ha:a<2 ^ n) (hb:b<2 ^ n):∀ j,itN (unF n lp a b) j 0<2 ^ n
 | 0=>Nat.two_pow_pos n
 | _+1=>Nat.or_lt_two_pow hb (Nat.lt_of_le_of_lt Nat.and_le_left ha)
theorem evT_lt {t:Tr} (h:t.Ok):∀ f,evT t f<2 ^ t.n
 | .at c=>by
   simp only [evT]
   cases hc:fnd c t.fs with
   | none=>exact Nat.two_pow_pos _
   | some v=>exact fnd_lt h.masks v hc
 | .fa=>Nat.two_pow_pos _
 | .f1 k a=>by
   have ha:=evT_lt h a
   simp only [evT]
   repeat' split
   ·exact nt_lt (every_lt2 _)
   ·exact befN_lt _ _ _
   ·exact itA_lt ha 5
   ·exact Nat.two_pow_pos _
 | .f2 k a b=>by
   have ha:=evT_lt h a
   have hb:=evT_lt h b
   simp only [evT]
   repeat' split
   ·exact Nat.lt_of_le_of_lt Nat.and_le_left ha
   ·exact Nat.or_lt_two_pow ha hb
   ·exact Nat.or_lt_two_pow (nt_lt (every_lt2 _)) hb
   ·exact nt_lt (every_lt2 _)
   ·exact itU_lt ha hb 5
   ·exact Nat.two_pow_pos _
structure AtEnv (t:Tr) (H:Heap) (im i1 i2 i3 i4:Nat) (m0:Bool):Prop where
 hm:H[im]? = some (.mp (fk t.fs) (fv t.fs))
 h1:H[i1]? = some (.box 104 [.mp im])
 h2:H[i2]? = some (.box 4 [.bool m0])
 h3:H[i3]? = some (.box 107 [.clo (.func 80) [] [.ptr i1 0,.ptr i2 0,.ptr i3 0,.ptr i4 0]])
 h4:H[i4]? = some (.box 105 [.rmp opK (opV t)])
 ne:i2≠im∧i2≠i1∧i2≠i3∧i2≠i4
theorem AtEnv.app {t:Tr} {H:Heap} {im i1 i2 i3 i4:Nat} {m0:Bool} (e:AtEnv t H im i1 i2 i3 i4 m0) (X:Heap):AtEnv t (H++X) im i1 i2 i3 i4 m0 :=
 ⟨zai e.hm,zai e.h1,zai e.h2,zai e.h3,zai e.h4,e.ne⟩
theorem AtEnv.set {t:Tr} {H:Heap} {im i1 i2 i3 i4:Nat} {m0:Bool} (e:AtEnv t H im i1 i2 i3 i4 m0) (b:Bool):AtEnv t (H.set i2 (.box 4 [.bool b])) im i1 i2 i3 i4 b :=
 ⟨at_setNe e.ne.1 e.hm,at_setNe e.ne.2.1 e.h1,zar e.h2,at_setNe e.ne.2.2.1 e.h3,at_setNe e.ne.2.2.2 e.h4,e.ne⟩
def AtIH (t:Tr) (f:Fm):Prop:=∀ (H:Heap) (im i1 i2 i3 i4:Nat) (m0:Bool),AtEnv t H im i1 i2 i3 i4 m0 →
 VCall Tryz.prog 80 [.agg f.cells,.ptr i1 0,.ptr i2 0,.ptr i3 0,.ptr i4 0] H (setR H i2 (.box 4 [.bool (m0 || miss t f)]) (.int .i64 (evT t f:Nat)))
theorem at_fa (t:Tr):AtIH t .fa:=by
 intro H im i1 i2 i3 i4 m0 e
 obtain ⟨hm,h1,h2,h3,h4,hne⟩:=e
 unfold Fm.cells
 simp only [Fm.op,Fm.nmB,Fm.sn,Fm.sc,miss,evT,Bool.or_false]
 unfold opV at h4
 refine zbg Tryz.E0 zaa Tryz.func80 (by kernel_rfl) rfl (Nat.le_of_ble_eq_true rfl) rfl fun hcl hbl=>?_
 (repeat' ((conv=>whnf);(first|(refine IfN.id ?_;first|refine IfN.tt rfl ?_|refine IfN.ff rfl ?_|fail)|refine CallN.det _ (op1_c 0 0 _) ?_|refine RelN.mk [_] [] ⟨⟨_,rfl⟩,0,by kernel_rfl,rfl⟩ ?_|refine PtrN.base _ (by (repeat' (first|assumption|exact za4 _ rfl|exact zam rfl|refine zar (B':=?_) ?_|refine zai ?_|fail))) ?_|fail)));conv=>whnf
 exact EndN.same h2 trivial (Wk.refl _)
theorem at_at (t:Tr) (c:UInt8):AtIH t (.at c):=by
 intro H im i1 i2 i3 i4 m0 e
 obtain ⟨hm,h1,h2,h3,h4,hne⟩:=e
 obtain ⟨m1,m2⟩:=mfind_nm c t.fs
 unfold Fm.cells
 simp only [Fm.op,Fm.nmB,Fm.sn,Fm.sc,miss,evT]
 cases hc:fnd c t.fs with
 | none =>
   have hl:=m1 hc
   cases m0
   all_goals
    refine zbg Tryz.E0 zaa Tryz.func80 (by kernel_rfl) rfl (Nat.le_of_ble_eq_true rfl) rfl fun hcl hbl=>?_
    (repeat' ((conv=>whnf);(first|(refine IfN.id ?_;first|refine IfN.tt rfl ?_|refine IfN.ff rfl ?_|fail)|refine SetN.mk _ rfl ?_|refine RelN.mk [] [] ⟨⟨_,rfl⟩,hl⟩ ?_|refine PtrN.base _ (by (repeat' (first|assumption|exact za4 _ rfl|exact zam rfl|refine zar (B':=?_) ?_|refine zai ?_|fail))) ?_|fail)));all_goals (conv=>whnf)
    exact za7 (by simp [Blk.below,zac,below]) trivial (Wk.refl _)
 | some v =>
   obtain ⟨j,hj,hv⟩:=m2 v hc
   cases m0
   all_goals
    refine zbg Tryz.E0 zaa Tryz.func80 (by kernel_rfl) rfl (Nat.le_of_ble_eq_true rfl) rfl fun hcl hbl=>?_
    (repeat' ((conv=>whnf);(first|(refine IfN.id ?_;first|refine IfN.tt rfl ?_|refine IfN.ff rfl ?_|fail)|refine SetN.mk _ rfl ?_|refine RelN.mk [_] [] ⟨⟨_,rfl⟩,j,hj,hv⟩ ?_|refine PtrN.base _ (by (repeat' (first|assumption|exact za4 _ rfl|exact zam rfl|refine zar (B':=?_) ?_|refine zai ?_|fail))) ?_|fail)));all_goals (conv=>whnf)
    exact za7 (by simp [Blk.below,zac,below]) trivial (Wk.refl _)
theorem at_f1_3 (t:Tr) (ht:t.Ok) (a:Fm) (ih:AtIH t a) (H:Heap) (im i1 i2 i3 i4:Nat) (m0:Bool) (e:AtEnv t H im i1 i2 i3 i4 m0) :
  VCall Tryz.prog 80 [.agg (Fm.f1 3 a).cells,.ptr i1 0,.ptr i2 0,.ptr i3 0,.ptr i4 0] H (setR H i2 (.box 4 [.bool (m0 || miss t a)]) (.int .i64 (nt (every t.n) (evT t a):Nat))):=by
 have q1:=fun X=>ih (H++X) im i1 i2 i3 i4 m0 (e.app X)
 obtain ⟨rm,r1,r2,r3,r4,-⟩:=e.set (m0 || miss t a)
 obtain ⟨hm,h1,h2,h3,h4,hne⟩:=e
 have ha:=evT_lt ht a
 have ha32:=p2_32 ha ht.n5
 have he:=every_lt ht.n5
 rw [show (Fm.f1 3 a).cells=[.int .u8 (3:Nat),.str .empty,.sl none 0 [],.sl none 1 [.int .u8 a.op,.str a.nmB,.sl none 0 [],.sl none a.sn a.sc]] from rfl]
 unfold Fm.cells at q1
 unfold opV at h4 r4
 generalize a.op=ao at q1 ⊢
 generalize a.nmB=an at q1 ⊢
 generalize a.sn=asn at q1 ⊢
 generalize a.sc=asc at q1 ⊢
 refine zbg Tryz.E0 zaa Tryz.func80 (by kernel_rfl) rfl (Nat.le_of_ble_eq_true rfl) rfl fun hcl hbl=>?_
 (repeat' ((conv=>whnf);(first|(refine IfN.id ?_;first|refine IfN.tt rfl ?_|refine IfN.ff rfl ?_|fail)|(refine SideN.mk ?_ ?_;· first|kernel_rfl|omega|exact List.cons_ne_nil _ _|fail)|refine CallN.det _ (op2_c (every t.n) (evT t a) 0 he ha32 _) ?_|refine CallD.setB i2 _ _ _ _ h2 rfl rfl (q1 _) rfl ?_|refine RelN.mk [_] [] ⟨⟨_,rfl⟩,1,by kernel_rfl,rfl⟩ ?_|refine PtrN.base _ (by (repeat' (first|assumption|exact za4 _ rfl|exact zam rfl|refine zar (B':=?_) ?_|refine zai ?_|fail))) ?_|refine SegN.mk _ (za6 rfl) ?_|refine zah [] ?_|fail)));conv=>whnf
 exact za7 (by simp [Blk.below,zac,below]) trivial (Wk.refl _)
theorem at_f1_12 (t:Tr) (ht:t.Ok) (a:Fm) (ih:AtIH t a) (H:Heap) (im i1 i2 i3 i4:Nat) (m0:Bool) (e:AtEnv t H im i1 i2 i3 i4 m0) :
  VCall Tryz.prog 80 [.agg (Fm.f1 12 a).cells,.ptr i1 0,.ptr i2 0,.ptr i3 0,.ptr i4 0] H (setR H i2 (.box 4 [.bool (m0 || miss t a)]) (.int .i64 (befN t.n t.lp (evT t a):Nat))):=by
 have q1:=fun X=>ih (H++X) im i1 i2 i3 i4 m0 (e.app X)
 obtain ⟨rm,r1,r2,r3,r4,-⟩:=e.set (m0 || miss t a)
 obtain ⟨hm,h1,h2,h3,h4,hne⟩:=e
 have ha:=evT_lt ht a
 have ha32:=p2_32 ha ht.n5
 have he:=every_lt ht.n5
 rw [show (Fm.f1 12 a).cells=[.int .u8 (12:Nat),.str .empty,.sl none 0 [],.sl none 1 [.int .u8 a.op,.str a.nmB,.sl none 0 [],.sl none a.sn a.sc]] from rfl]
 unfold Fm.cells at q1
 unfold opV at h4 r4
 generalize a.op=ao at q1 ⊢
 generalize a.nmB=an at q1 ⊢
 generalize a.sn=asn at q1 ⊢
 generalize a.sc=asc at q1 ⊢
 refine zbg Tryz.E0 zaa Tryz.func80 (by kernel_rfl) rfl (Nat.le_of_ble_eq_true rfl) rfl fun hcl hbl=>?_
 (repeat' ((conv=>whnf);(first|(refine IfN.id ?_;first|refine IfN.tt rfl ?_|refine IfN.ff rfl ?_|fail)|(refine SideN.mk ?_ ?_;· first|kernel_rfl|omega|exact List.cons_ne_nil _ _|fail)|refine CallN.det _ (op7_c t ht (evT t a) 0 ha32 _) ?_|refine CallD.setB i2 _ _ _ _ h2 rfl rfl (q1 _) rfl ?_|refine RelN.mk [_] [] ⟨⟨_,rfl⟩,6,by kernel_rfl,rfl⟩ ?_|refine PtrN.base _ (by (repeat' (first|assumption|exact za4 _ rfl|exact zam rfl|refine zar (B':=?_) ?_|refine zai ?_|fail))) ?_|refine SegN.mk _ (za6 rfl) ?_|refine zah [] ?_|fail)));conv=>whnf
 exact za7 (by simp [Blk.below,zac,below]) trivial (Wk.refl _)
theorem at_f1_13 (t:Tr) (ht:t.Ok) (a:Fm) (ih:AtIH t a) (H:Heap) (im i1 i2 i3 i4:Nat) (m0:Bool) (e:AtEnv t H im i1 i2 i3 i4 m0) :
  VCall Tryz.prog 80 [.agg (Fm.f1 13 a).cells,.ptr i1 0,.ptr i2 0,.ptr i3 0,.ptr i4 0] H (setR H i2 (.box 4 [.bool (m0 || miss t a)]) (.int .i64 (alN t.n t.lp (evT t a):Nat))):=by
 have q1:=fun X=>ih (H++X) im i1 i2 i3 i4 m0 (e.app X)
 obtain ⟨rm,r1,r2,r3,r4,-⟩:=e.set (m0 || miss t a)
 obtain ⟨hm,h1,h2,h3,h4,hne⟩:=e
 have ha:=evT_lt ht a
 have ha32:=p2_32 ha ht.n5
 have he:=every_lt ht.n5
 rw [show (Fm.f1 13 a).cells=[.int .u8 (13:Nat),.str .empty,.sl none 0 [],.sl none 1 [.int .u8 a.op,.str a.nmB,.sl none 0 [],.sl none a.sn a.sc]] from rfl]
 unfold Fm.cells at q1
 unfold opV at h4 r4
 generalize a.op=ao at q1 ⊢
 generalize a.nmB=an at q1 ⊢
 generalize a.sn=asn at q1 ⊢
 generalize a.sc=asc at q1 ⊢
 refine zbg Tryz.E0 zaa Tryz.func80 (by kernel_rfl) rfl (Nat.le_of_ble_eq_true rfl) rfl fun hcl hbl=>?_
 (repeat' ((conv=>whnf);(first|(refine IfN.id ?_;first|refine IfN.tt rfl ?_|refine IfN.ff rfl ?_|fail)|(refine SideN.mk ?_ ?_;· first|kernel_rfl|omega|exact List.cons_ne_nil _ _|fail)|refine CallN.det _ (op8_c t ht (evT t a) 0 ha _) ?_|refine CallD.setB i2 _ _ _ _ h2 rfl rfl (q1 _) rfl ?_|refine RelN.mk [_] [] ⟨⟨_,rfl⟩,7,by kernel_rfl,rfl⟩ ?_|refine PtrN.base _ (by (repeat' (first|assumption|exact za4 _ rfl|exact zam rfl|refine zar (B':=?_) ?_|refine zai ?_|fail))) ?_|refine SegN.mk _ (za6 rfl) ?_|refine zah [] ?_|fail)));conv=>whnf
 exact za7 (by simp [Blk.below,zac,below]) trivial (Wk.refl _)
theorem at_f2_4 (t:Tr) (ht:t.Ok) (a b:Fm) (iha:AtIH t a) (ihb:AtIH t b) (H:Heap) (im i1 i2 i3 i4:Nat) (m0:Bool) (e:AtEnv t H im i1 i2 i3 i4 m0) :
  VCall Tryz.prog 80 [.agg (Fm.f2 4 a b).cells,.ptr i1 0,.ptr i2 0,.ptr i3 0,.ptr i4 0] H (setR H i2 (.box 4 [.bool (m0 || miss t a || miss t b)]) (.int .i64 (evT t a &&& evT t b:Nat))):=by
 have q1:=fun X=>iha (H++X) im i1 i2 i3 i4 m0 (e.app X)
 have q2:=fun X=>ihb (H.set i2 (.box 4 [.bool (m0 || miss t a)])++X) im i1 i2 i3 i4 _ ((e.set (m0 || miss t a)).app X)
 obtain ⟨rm,r1,r2,r3,r4,-⟩:=e.set (m0 || miss t a)
 obtain ⟨sm,s1,s2,s3,s4,-⟩:=e.set (m0 || miss t a || miss t b)
 obtain ⟨hm,h1,h2,h3,h4,hne⟩:=e
 have ha:=evT_lt ht a
 have ha32:=p2_32 ha ht.n5
 have hb:=evT_lt ht b
 have hb32:=p2_32 hb ht.n5
 have he:=every_lt ht.n5
 rw [show (Fm.f2 4 a b).cells=[.int .u8 (4:Nat),.str .empty,.sl none 0 [],.sl none 2 [.int .u8 a.op,.str a.nmB,.sl none 0 [],.sl none a.sn a.sc,.int .u8 b.op,.str b.nmB,.sl none 0 [],.sl none b.sn b.sc]] from rfl]
 unfold Fm.cells at q1 q2
 unfold opV at h4 r4 s4
 generalize a.op=ao at q1 ⊢
 generalize a.nmB=an at q1 ⊢
 generalize a.sn=asn at q1 ⊢
 generalize a.sc=asc at q1 ⊢
 generalize b.op=bo at q2 ⊢
 generalize b.nmB=bn at q2 ⊢
 generalize b.sn=bsn at q2 ⊢
 generalize b.sc=bsc at q2 ⊢
 refine zbg Tryz.E0 zaa Tryz.func80 (by kernel_rfl) rfl (Nat.le_of_ble_eq_true rfl) rfl fun hcl hbl=>?_
 (repeat' ((conv=>whnf);(first|(refine IfN.id ?_;first|refine IfN.tt rfl ?_|refine IfN.ff rfl ?_|fail)|(refine SideN.mk ?_ ?_;· first|kernel_rfl|omega|exact List.cons_ne_nil _ _|fail)|refine CallN.det _ (op3_c (evT t a) (evT t b) ha32 hb32 _) ?_|refine CallD.setB i2 _ _ _ _ h2 rfl rfl (q1 _) rfl ?_|refine CallD.setB i2 _ _ _ _ r2 (by simp) rfl (q2 _) (List.set_set ..) ?_|refine RelN.mk [_] [] ⟨⟨_,rfl⟩,2,by kernel_rfl,rfl⟩ ?_|refine PtrN.base _ (by (repeat' (first|assumption|exact za4 _ rfl|exact zam rfl|refine zar (B':=?_) ?_|refine zai ?_|fail))) ?_|refine SegN.mk _ (za6 rfl) ?_|refine zah [] ?_|fail)));conv=>whnf
 exact za7 (by simp [Blk.below,zac,below]) trivial (Wk.refl _)
theorem at_f2_5 (t:Tr) (ht:t.Ok) (a b:Fm) (iha:AtIH t a) (ihb:AtIH t b) (H:Heap) (im i1 i2 i3 i4:Nat) (m0:Bool) (e:AtEnv t H im i1 i2 i3 i4 m0) :
  VCall Tryz.prog 80 [.agg (Fm.f2 5 a b).cells,.ptr i1 0,.ptr i2 0,.ptr i3 0,.ptr i4 0] H (setR H i2 (.box 4 [.bool (m0 || miss t a || miss t b)]) (.int .i64 (evT t a ||| evT t b:Nat))):=by
 have q1:=fun X=>iha (H++X) im i1 i2 i3 i4 m0 (e.app X)
 have q2:=fun X=>ihb (H.set i2 (.box 4 [.bool (m0 || miss t a)])++X) im i1 i2 i3 i4 _ ((e.set (m0 || miss t a)).app X)
 obtain ⟨rm,r1,r2,r3,r4,-⟩:=e.set (m0 || miss t a)
 obtain ⟨sm,s1,s2,s3,s4,-⟩:=e.set (m0 || miss t a || miss t b)
 obtain ⟨hm,h1,h2,h3,h4,hne⟩:=e
 have ha:=evT_lt ht a
 have ha32:=p2_32 ha ht.n5
 have hb:=evT_lt ht b
 have hb32:=p2_32 hb ht.n5
 have he:=every_lt ht.n5
 rw [show (Fm.f2 5 a b).cells=[.int .u8 (5:Nat),.str .empty,.sl none 0 [],.sl none 2 [.int .u8 a.op,.str a.nmB,.sl none 0 [],.sl none a.sn a.sc,.int .u8 b.op,.str b.nmB,.sl none 0 [],.sl none b.sn b.sc]] from rfl]
 unfold Fm.cells at q1 q2
 unfold opV at h4 r4 s4
 generalize a.op=ao at q1 ⊢
 generalize a.nmB=an at q1 ⊢
 generalize a.sn=asn at q1 ⊢
 generalize a.sc=asc at q1 ⊢
 generalize b.op=bo at q2 ⊢
 generalize b.nmB=bn at q2 ⊢
 generalize b.sn=bsn at q2 ⊢
 generalize b.sc=bsc at q2 ⊢
 refine zbg Tryz.E0 zaa Tryz.func80 (by kernel_rfl) rfl (Nat.le_of_ble_eq_true rfl) rfl fun hcl hbl=>?_
 (repeat' ((conv=>whnf);(first|(refine IfN.id ?_;first|refine IfN.tt rfl ?_|refine IfN.ff rfl ?_|fail)|(refine SideN.mk ?_ ?_;· first|kernel_rfl|omega|exact List.cons_ne_nil _ _|fail)|refine CallN.det _ (op4_c (evT t a) (evT t b) ha32 hb32 _) ?_|refine CallD.setB i2 _ _ _ _ h2 rfl rfl (q1 _) rfl ?_|refine CallD.setB i2 _ _ _ _ r2 (by simp) rfl (q2 _) (List.set_set ..) ?_|refine RelN.mk [_] [] ⟨⟨_,rfl⟩,3,by kernel_rfl,rfl⟩ ?_|refine PtrN.base _ (by (repeat' (first|assumption|exact za4 _ rfl|exact zam rfl|refine zar (B':=?_) ?_|refine zai ?_|fail))) ?_|refine SegN.mk _ (za6 rfl) ?_|refine zah [] ?_|fail)));conv=>whnf
 exact za7 (by simp [Blk.below,zac,below]) trivial (Wk.refl _)
theorem at_f2_6 (t:Tr) (ht:t.Ok) (a b:Fm) (iha:AtIH t a) (ihb:AtIH t b) (H:Heap) (im i1 i2 i3 i4:Nat) (m0:Bool) (e:AtEnv t H im i1 i2 i3 i4 m0) :
  VCall Tryz.prog 80 [.agg (Fm.f2 6 a b).cells,.ptr i1 0,.ptr i2 0,.ptr i3 0,.ptr i4 0] H (setR H i2 (.box 4 [.bool (m0 || miss t a || miss t b)]) (.int .i64 (nt (every t.n) (evT t a) ||| evT t b:Nat))):=by
 have q1:=fun X=>iha (H++X) im i1 i2 i3 i4 m0 (e.app X)
 have q2:=fun X=>ihb (H.set i2 (.box 4 [.bool (m0 || miss t a)])++X) im i1 i2 i3 i4 _ ((e.set (m0 || miss t a)).app X)
 obtain ⟨rm,r1,r2,r3,r4,-⟩:=e.set (m0 || miss t a)
 obtain ⟨sm,s1,s2,s3,s4,-⟩:=e.set (m0 || miss t a || miss t b)
 obtain ⟨hm,h1,h2,h3,h4,hne⟩:=e
 have ha:=evT_lt ht a
 have ha32:=p2_32 ha ht.n5
 have hb:=evT_lt ht b
 have hb32:=p2_32 hb ht.n5
 have he:=every_lt ht.n5
 rw [show (Fm.f2 6 a b).cells=[.int .u8 (6:Nat),.str .empty,.sl none 0 [],.sl none 2 [.int .u8 a.op,.str a.nmB,.sl none 0 [],.sl none a.sn a.sc,.int .u8 b.op,.str b.nmB,.sl none 0 [],.sl none b.sn b.sc]] from rfl]
 unfold Fm.cells at q1 q2
 unfold opV at h4 r4 s4
 generalize a.op=ao at q1 ⊢
 generalize a.nmB=an at q1 ⊢
 generalize a.sn=asn at q1 ⊢
 generalize a.sc=asc at q1 ⊢
 generalize b.op=bo at q2 ⊢
 generalize b.nmB=bn at q2 ⊢
 generalize b.sn=bsn at q2 ⊢
 generalize b.sc=bsc at q2 ⊢
 refine zbg Tryz.E0 zaa Tryz.func80 (by kernel_rfl) rfl (Nat.le_of_ble_eq_true rfl) rfl fun hcl hbl=>?_
 (repeat' ((conv=>whnf);(first|(refine IfN.id ?_;first|refine IfN.tt rfl ?_|refine IfN.ff rfl ?_|fail)|(refine SideN.mk ?_ ?_;· first|kernel_rfl|omega|exact List.cons_ne_nil _ _|fail)|refine CallN.det _ (op5_c (every t.n) (evT t a) (evT t b) he ha32 hb32 _) ?_|refine CallD.setB i2 _ _ _ _ h2 rfl rfl (q1 _) rfl ?_|refine CallD.setB i2 _ _ _ _ r2 (by simp) rfl (q2 _) (List.set_set ..) ?_|refine RelN.mk [_] [] ⟨⟨_,rfl⟩,4,by kernel_rfl,rfl⟩ ?_|refine PtrN.base _ (by (repeat' (first|assumption|exact za4 _ rfl|exact zam rfl|refine zar (B':=?_) ?_|refine zai ?_|fail))) ?_|refine SegN.mk _ (za6 rfl) ?_|refine zah [] ?_|fail)));conv=>whnf
 exact za7 (by simp [Blk.below,zac,below]) trivial (Wk.refl _)
theorem at_f2_7 (t:Tr) (ht:t.Ok) (a b:Fm) (iha:AtIH t a) (ihb:AtIH t b) (H:Heap) (im i1 i2 i3 i4:Nat) (m0:Bool) (e:AtEnv t H im i1 i2 i3 i4 m0) :
  VCall Tryz.prog 80 [.agg (Fm.f2 7 a b).cells,.ptr i1 0,.ptr i2 0,.ptr i3 0,.ptr i4 0] H (setR H i2 (.box 4 [.bool (m0 || miss t a || miss t b)]) (.int .i64 (nt (every t.n) (evT t a ^^^ evT t b):Nat))):=by
 have q1:=fun X=>iha (H++X) im i1 i2 i3 i4 m0 (e.app X)
 have q2:=fun X=>ihb (H.set i2 (.box 4 [.bool (m0 || miss t a)])++X) im i1 i2 i3 i4 _ ((e.set (m0 || miss t a)).app X)
 obtain ⟨rm,r1,r2,r3,r4,-⟩:=e.set (m0 || miss t a)
 obtain ⟨sm,s1,s2,s3,s4,-⟩:=e.set (m0 || miss t a || miss t b)
 obtain ⟨hm,h1,h2,h3,h4,hne⟩:=e
 have ha:=evT_lt ht a
 have ha32:=p2_32 ha ht.n5
 have hb:=evT_lt ht b
 have hb32:=p2_32 hb ht.n5
 have he:=every_lt ht.n5
 rw [show (Fm.f2 7 a b).cells=[.int .u8 (7:Nat),.str .empty,.sl none 0 [],.sl none 2 [.int .u8 a.op,.str a.nmB,.sl none 0 [],.sl none a.sn a.sc,.int .u8 b.op,.str b.nmB,.sl none 0 [],.sl none b.sn b.sc]] from rfl]
 unfold Fm.cells at q1 q2
 unfold opV at h4 r4 s4
 generalize a.op=ao at q1 ⊢
 generalize a.nmB=an at q1 ⊢
 generalize a.sn=asn at q1 ⊢
 generalize a.sc=asc at q1 ⊢
 generalize b.op=bo at q2 ⊢
 generalize b.nmB=bn at q2 ⊢
 generalize b.sn=bsn at q2 ⊢
 generalize b.sc=bsc at q2 ⊢
 refine zbg Tryz.E0 zaa Tryz.func80 (by kernel_rfl) rfl (Nat.le_of_ble_eq_true rfl) rfl fun hcl hbl=>?_
 (repeat' ((conv=>whnf);(first|(refine IfN.id ?_;first|refine IfN.tt rfl ?_|refine IfN.ff rfl ?_|fail)|(refine SideN.mk ?_ ?_;· first|kernel_rfl|omega|exact List.cons_ne_nil _ _|fail)|refine CallN.det _ (op6_c (every t.n) (evT t a) (evT t b) he ha32 hb32 _) ?_|refine CallD.setB i2 _ _ _ _ h2 rfl rfl (q1 _) rfl ?_|refine CallD.setB i2 _ _ _ _ r2 (by simp) rfl (q2 _) (List.set_set ..) ?_|refine RelN.mk [_] [] ⟨⟨_,rfl⟩,5,by kernel_rfl,rfl⟩ ?_|refine PtrN.base _ (by (repeat' (first|assumption|exact za4 _ rfl|exact zam rfl|refine zar (B':=?_) ?_|refine zai ?_|fail))) ?_|refine SegN.mk _ (za6 rfl) ?_|refine zah [] ?_|fail)));conv=>whnf
 exact za7 (by simp [Blk.below,zac,below]) trivial (Wk.refl _)
theorem at_f2_14 (t:Tr) (ht:t.Ok) (a b:Fm) (iha:AtIH t a) (ihb:AtIH t b) (H:Heap) (im i1 i2 i3 i4:Nat) (m0:Bool) (e:AtEnv t H im i1 i2 i3 i4 m0) :
  VCall Tryz.prog 80 [.agg (Fm.f2 14 a b).cells,.ptr i1 0,.ptr i2 0,.ptr i3 0,.ptr i4 0] H (setR H i2 (.box 4 [.bool (m0 || miss t a || miss t b)]) (.int .i64 (unN t.n t.lp (evT t a) (evT t b):Nat))):=by
 have q1:=fun X=>iha (H++X) im i1 i2 i3 i4 m0 (e.app X)
 have q2:=fun X=>ihb (H.set i2 (.box 4 [.bool (m0 || miss t a)])++X) im i1 i2 i3 i4 _ ((e.set (m0 || miss t a)).app X)
 obtain ⟨rm,r1,r2,r3,r4,-⟩:=e.set (m0 || miss t a)
 obtain ⟨sm,s1,s2,s3,s4,-⟩:=e.set (m0 || miss t a || miss t b)
 obtain ⟨hm,h1,h2,h3,h4,hne⟩:=e
 have ha:=evT_lt ht a
 have ha32:=p2_32 ha ht.n5
 have hb:=evT_lt ht b
 have hb32:=p2_32 hb ht.n5
 have he:=every_lt ht.n5
 rw [show (Fm.f2 14 a b).cells=[.int .u8 (14:Nat),.str .empty,.sl none 0 [],.sl none 2 [.int .u8 a.op,.str a.nmB,.sl none 0 [],.sl none a.sn a.sc,.int .u8 b.op,.str b.nmB,.sl none 0 [],.sl none b.sn b.sc]] from rfl]
 unfold Fm.cells at q1 q2
 unfold opV at h4 r4 s4
 generalize a.op=ao at q1 ⊢
 generalize a.nmB=an at q1 ⊢
 generalize a.sn=asn at q1 ⊢
 generalize a.sc=asc at q1 ⊢
 generalize b.op=bo at q2 ⊢
 generalize b.nmB=bn at q2 ⊢
 generalize b.sn=bsn at q2 ⊢
 generalize b.sc=bsc at q2 ⊢
 refine zbg Tryz.E0 zaa Tryz.func80 (by kernel_rfl) rfl (Nat.le_of_ble_eq_true rfl) rfl fun hcl hbl=>?_
 (repeat' ((conv=>whnf);(first|(refine IfN.id ?_;first|refine IfN.tt rfl ?_|refine IfN.ff rfl ?_|fail)|(refine SideN.mk ?_ ?_;· first|kernel_rfl|omega|exact List.cons_ne_nil _ _|fail)|refine CallN.det _ (op9_c t ht (evT t a) (evT t b) ha hb _) ?_|refine CallD.setB i2 _ _ _ _ h2 rfl rfl (q1 _) rfl ?_|refine CallD.setB i2 _ _ _ _ r2 (by simp) rfl (q2 _) (List.set_set ..) ?_|refine RelN.mk [_] [] ⟨⟨_,rfl⟩,8,by kernel_rfl,rfl⟩ ?_|refine PtrN.base _ (by (repeat' (first|assumption|exact za4 _ rfl|exact zam rfl|refine zar (B':=?_) ?_|refine zai ?_|fail))) ?_|refine SegN.mk _ (za6 rfl) ?_|refine zah [] ?_|fail)));conv=>whnf
 exact za7 (by simp [Blk.below,zac,below]) trivial (Wk.refl _)
theorem at_c (t:Tr) (ht:t.Ok):∀ f:Fm,f.Temp→AtIH t f
 | .at c,_=>at_at t c
 | .fa,_=>at_fa t
 | .f1 k a,h=>by
   have ih:=at_c t ht a h.2
   intro H im i1 i2 i3 i4 m0 e
   rcases h.1 with rfl|rfl|rfl
   ·exact at_f1_3 t ht a ih H im i1 i2 i3 i4 m0 e
   ·exact at_f1_12 t ht a ih H im i1 i2 i3 i4 m0 e
   ·exact at_f1_13 t ht a ih H im i1 i2 i3 i4 m0 e
 | .f2 k a b,h=>by
   have iha:=at_c t ht a h.2.1
   have ihb:=at_c t ht b h.2.2
   intro H im i1 i2 i3 i4 m0 e
   rw [show (m0 || miss t (.f2 k a b))=(m0 || miss t a || miss t b) from (Bool.or_assoc ..).symm]
   rcases h.1 with rfl|rfl|rfl|rfl|rfl
   ·exact at_f2_4 t ht a b iha ihb H im i1 i2 i3 i4 m0 e
   ·exact at_f2_5 t ht a b iha ihb H im i1 i2 i3 i4 m0 e
   ·exact at_f2_6 t ht a b iha ihb H im i1 i2 i3 i4 m0 e
   ·exact at_f2_7 t ht a b iha ihb H im i1 i2 i3 i4 m0 e
   ·exact at_f2_14 t ht a b iha ihb H im i1 i2 i3 i4 m0 e
theorem fnd_none {c:UInt8}:∀ {l:List (UInt8×Nat)},(∀ p∈l,c≠p.1)→fnd c l=none
 | [],_=>rfl
 | p::l,h=>by
   have h1:(c==p.1)=false:=by simpa using h p (List.mem_cons_self ..)
   simp only [fnd,h1]
   exact fnd_none fun q hq=>h q (List.mem_cons_of_mem _ hq)
theorem Tr.Ok.mono {t:Tr} (h:t.Ok) (i:Nat):∀ d,i+d+1<t.fs.length→(ft t.fs i).1.toNat<(ft t.fs (i+d+1)).1.toNat
 | 0,hl=>h.inc i hl
 | d+1,hl=>Nat.lt_trans (h.mono i d (by omega)) (h.inc (i+d+1) hl)
theorem Tr.Ok.new {t:Tr} (h:t.Ok) {k:Nat} (hk:k<t.fs.length):fnd (ft t.fs k).1 (t.fs.take k)=none:=by
 refine fnd_none fun p hp=>?_
 obtain ⟨i,hi,rfl⟩:=List.getElem_of_mem hp
 rw [List.length_take] at hi
 have hik:i<k:=by omega
 have:=h.mono i (k-i-1) (by omega)
 rw [show i+(k-i-1)+1=k by omega] at this
 intro e
 rw [e] at this
 have h2:(t.fs.take k)[i]=ft t.fs i:=by simp [ft,List.getD,show i<t.fs.length by omega]
 rw [h2] at this
 exact Nat.lt_irrefl _ this
theorem fk_succ {l:List (UInt8×Nat)} {k:Nat} (hk:k<l.length):fk (l.take k)++[.str (nm (ft l k).1)]=fk (l.take (k+1)):=map_take_succ (fun p:UInt8×Nat=>AV.str (nm p.1)) l (0,0) k hk
theorem fv_succ {l:List (UInt8×Nat)} {k:Nat} (hk:k<l.length):fv (l.take k)++[.int .i64 (ft l k).2]=fv (l.take (k+1)):=map_take_succ (fun p:UInt8×Nat=>AV.int .i64 p.2) l (0,0) k hk
theorem fk_below (n:Nat):∀ l,zac n (fk l)
 | []=>trivial
 | _::l=>⟨trivial,fk_below n l⟩
theorem fv_below (n:Nat):∀ l,zac n (fv l)
 | []=>trivial
 | _::l=>⟨trivial,fv_below n l⟩
theorem At_d (t:Tr) (ht:t.Ok) (f:Fm) (hf:f.Ok) (htf:f.Temp) (hn:f.Small) (H:Heap) :
  VDet Tryz.prog 34 [.agg t.cells,.agg f.cells] H (.tup [.int .i64 ((if miss t f=true then 0 else evT t f:Nat):Int),.int .i64 (if miss t f=true then 6 else 0)]):=by
 have hv:=fun H=>valid_t ht H
 have hr:=fun H=>right_c f hf htf hn H
 have ho:=fun H=>operators_c t ht H
 have hq:=at_c t ht f htf (H++[.box 27 t.cells,.box 50 f.cells,.mp (fk t.fs) (fv t.fs),.box 104 [.mp (H.length+2)],.box 105 [.rmp opK (opV t)],.box 4 [.bool false],.box 107 [.clo (.func 80) [] [.ptr (H.length+3) 0,.ptr (H.length+5) 0,.ptr (H.length+6) 0,.ptr (H.length+4) 0]]]) (H.length+2) (H.length+3) (H.length+5) (H.length+6) (H.length+4) false
  ⟨zam rfl,zam rfl,zam rfl,zam rfl,zam rfl,by omega⟩
 have hnew:=fun k hk=>(mfind_nm _ _).1 (ht.new (k:=k) hk)
 have hl:=ht.len
 obtain ⟨n,lp,fs⟩:=t
 generalize opV ⟨n,lp,fs⟩=ov at ho hq
 unfold Tr.cells at hv ho hq ⊢
 unfold Fm.cells at hr hq ⊢
 simp only at hv hr ho hq hl hnew ⊢
 refine zag Tryz.E0 zaa Tryz.func34 (by kernel_rfl) rfl (Nat.le_of_ble_eq_true rfl) rfl fun hcl hbl=>?_
 (repeat' ((conv=>whnf);(first|(refine IfN.id ?_;first|refine IfN.not ?_|refine IfN.tt rfl ?_|fail)|(refine CallN.id ?_;first|refine CallN.det _ (hv _) ?_|refine CallN.det _ (hr _) ?_|fail)|fail)));conv=>whnf
 refine za9 Tryz.E0 zaa (σ:=Nat) (fun k=>k≤fs.length) (fun k=>fs.length-k) (fun k=>[(25,.v (.int .i64 k))]) (fun k=>[.box 27 [.int .u8 5,.int .i64 n,.sl none 0 [],.int .i64 lp,.sl none fs.length (fs.flatMap encT),.sl none 0 [],.sl none 0 []],.box 50 [.int .u8 f.op,.str f.nmB,.sl none 0 [],.sl none f.sn f.sc],.mp (fk (fs.take k)) (fv (fs.take k)),.box 104 [.mp (H.length+2)]]) _ 0 rfl hcl [2,3,6,23,24] rfl (Nat.zero_le _) ⟨⟨_,rfl,Wk.refl _⟩,trivial⟩ rfl (fun _ _=>rfl) ?_
 intro k hk
 clear hbl
 (repeat' ((conv=>whnf);(first|refine za3 (fun _=>?_) (fun _=>?_)|(refine zaf _ _ Cst.h Cst.h ?_ ?_;· omega)|(refine SideN.mk ?_ ?_;· first|omega|exact List.cons_ne_nil _ _|fail)|refine zbm (0,0) k rfl (by omega) (fun _=>rfl) ?_|refine RelN.mk _ _ ⟨⟨_,rfl⟩,.new (hnew k (by omega))⟩ ?_|refine PtrN.loc _ rfl ?_|fail)));all_goals (conv=>whnf)
 ·rw [show fk (fs.take k)++[.str (nm (fs.getD k (0,0)).1)]=fk (fs.take (k+1)) from fk_succ (by omega),show fv (fs.take k)++[.int .i64 (fs.getD k (0,0)).2]=fv (fs.take (k+1)) from fv_succ (by omega)]
  (refine ⟨⟨k+1,by omega,by omega,?_,.inl ⟨rfl,rfl⟩,rfl,_,rfl,?_⟩⟩;rotate_left 1;exact .inr ⟨by simp [zbe,below,zac,tr,encT_below,Fm.sc_below,fk_below,fv_below],by simp [belowH,Blk.below,zac,below,encT_below,Fm.sc_below,fk_below,fv_below]⟩;exact ⟨⟨_,rfl,Wk.refl _⟩,trivial⟩)
 ·have:k=fs.length:=by omega
  subst this
  rw [List.take_length]
  (repeat' ((conv=>whnf);(first|(refine IfN.mk ?_ ?_ <;> intro _)|refine CallN.det _ (ho _) ?_|refine CallN.setL 5 _ _ _ rfl rfl hq rfl ?_|fail)));all_goals (conv=>whnf)
  all_goals
   rename_i hm
   simp only [Bool.false_or] at hm
   exact EndN.det (by simp [below,zac]) (Wk.of_eq (by rw [hm];rfl))
theorem At_c (t:Tr) (ht:t.Ok) (f:Fm) (hf:f.Ok) (htf:f.Temp) (hn:f.nodes≤40) (H:Heap) :
  VDet Tryz.prog 34 [.agg t.cells,.agg f.cells] H (.tup [.int .i64 ((if miss t f=true then 0 else evT t f:Nat):Int),.int .i64 (if miss t f=true then 6 else 0)]):=At_d t ht f hf htf (Fm.small_of hn) H
def encN (p:Nat):List AV:=[.int .i64 p]
theorem zbk (n:Nat) (l:List Nat):zac n (l.flatMap encN):=zba _ fun x=>by simp [encN,zac,below]
def tkK (old:List Nat) (mask:Nat):Nat→Nat
 | 0=>0
 | k+1=>tkK old mask k ||| ((mask >>> old.getD k 0) &&& 1) <<< k
theorem tkK_lt (old:List Nat) (mask:Nat):∀ k,tkK old mask k<2 ^ k
 | 0=>by simp [tkK]
 | k+1=>Nat.or_lt_two_pow (Nat.lt_trans (tkK_lt old mask k) (Nat.pow_lt_pow_right (by decide) (by omega))) bit_lt
def tkF (old:List Nat) (p:UInt8×Nat):UInt8×Nat:=(p.1,tkK old p.2 old.length)
def takenT (t:Tr) (old:List Nat) (lp:Nat):Tr:=⟨old.length,lp,t.fs.map (tkF old)⟩
theorem taken_c (t:Tr) (ht:t.Ok) (old:List Nat) (lp:Nat) (h5:old.length≤5) (ho:∀ i,i<old.length→old.getD i 0<5) (H:Heap) :
  VDet Tryz.prog 46 [.agg t.cells,.sl none old.length (old.flatMap encN),.int .i64 lp] H (.agg (takenT t old lp).cells):=by
 have hl:=ht.len
 have hs:=fun i hi=>ht.small i hi
 have e1:(takenT t old lp).cells=[.int .u8 5,.int .i64 old.length,.sl none 0 [],.int .i64 lp,.sl none t.fs.length ((t.fs.map (tkF old)).flatMap encT),.sl none 0 [],.sl none 0 []]:=by
  simp [takenT,Tr.cells]
 rw [e1]
 obtain ⟨n,lp0,fs⟩:=t
 unfold Tr.cells
 simp only at hl hs ⊢
 refine zag Tryz.E0 zaa Tryz.func46 (by kernel_rfl) rfl (Nat.le_of_ble_eq_true rfl) rfl fun hcl hbl=>?_
 conv=>whnf
 refine LoopN.tokB 2 4 60 3 rfl rfl rfl rfl rfl rfl ?_
 refine za9 Tryz.E0 zaa (σ:=Nat×List AV) (fun k=>k.1≤fs.length∧k.2=((fs.take k.1).map (tkF old)).flatMap encT) (fun k=>fs.length-k.1) (fun k=>[(20,.v (.int .i64 k.1))]) (fun k=>[.box 27 [.int .u8 5,.int .i64 n,.sl none 0 [],.int .i64 lp0,.sl none fs.length (fs.flatMap encT),.sl none 0 [],.sl none 0 []],.box 27 [.int .u8 0,.int .i64 0,.nils,.int .i64 0,.nils,.nils,.nils],.box 27 [.int .u8 5,.int .i64 old.length,.nils,.int .i64 lp,.sl (some (H.length+3)) k.1 k.2,.nils,.nils],.tok 60 3 k.2.length]) _ (0,[]) rfl hcl [1,6,7,18,19] rfl ⟨Nat.zero_le _,rfl⟩ ⟨⟨_,rfl,Wk.refl _⟩,trivial⟩ rfl (fun _ _=>rfl) ?_
 rintro ⟨k,cs⟩ ⟨hk,hcs⟩
 simp only at hk hcs ⊢
 clear hbl
 have hs':k<fs.length→(fs.getD k (0,0)).2<32:=hs k
 (repeat' ((conv=>whnf);(first|refine za3 (fun _=>?_) (fun _=>?_)|(refine SideN.mk ?_ ?_;· first|omega|exact List.cons_ne_nil _ _|fail)|refine zbm (0,0) k rfl (by omega) (fun _=>rfl) ?_|fail)));all_goals (conv=>whnf)
 ·refine za9 Tryz.E0 zaa (σ:=Nat) (fun j=>j≤old.length) (fun j=>old.length-j) (fun j=>[(10,.v (.int .i64 (tkK old (fs.getD k (0,0)).2 j:Nat))),(26,.v (.int .i64 j))]) (fun _=>_) _ 0 rfl hcl [1,6,7,9,18,19,20,24,25] rfl (Nat.zero_le _) ⟨⟨_,rfl,Wk.refl _⟩,⟨_,rfl,Wk.refl _⟩,trivial⟩ rfl (fun _ _=>rfl) ?_
  intro j hj
  have h32:=hs' (by omega)
  have ho':=ho j
  have hb:tkK old (fs.getD k (0,0)).2 j<32:=p2_32 (tkK_lt _ _ j) (by omega)
  have hcl3:cs.length=k * 3:=by
   rw [hcs,zaz (sz:=3) (fun _=>rfl)]
   simp [Nat.min_eq_left hk]
  (repeat' ((conv=>whnf);(first|refine za3 (fun _=>?_) (fun _=>?_)|(refine EqN.id ?_;first|(refine EqN.and _ _ Cst.h Cst.h ?_ ?_;· (repeat' (first|omega|refine And.intro ?_ ?_|exact zad (by omega)|exact zap (by omega)|refine zbb ?_ ?_|refine zao ?_ ?_|refine zau ?_ ?_|refine zal ?_ ?_|refine zav ?_|refine zaw ?_ ?_|refine zax ?_|refine zad ?_|fail)))|(refine EqN.or _ _ Cst.h Cst.h ?_ ?_;· (repeat' (first|omega|refine And.intro ?_ ?_|exact zad (by omega)|exact zap (by omega)|refine zbb ?_ ?_|refine zao ?_ ?_|refine zau ?_ ?_|refine zal ?_ ?_|refine zav ?_|refine zaw ?_ ?_|refine zax ?_|refine zad ?_|fail)))|(refine EqN.shrN _ _ Cst.h Cst.h rfl ?_ ?_;· (repeat' (first|omega|refine And.intro ?_ ?_|exact zad (by omega)|exact zap (by omega)|refine zbb ?_ ?_|refine zao ?_ ?_|refine zau ?_ ?_|refine zal ?_ ?_|refine zav ?_|refine zaw ?_ ?_|refine zax ?_|refine zad ?_|fail)))|(refine EqN.shlN _ _ Cst.h Cst.h rfl ?_ ?_ ?_;(· (repeat' (first|omega|refine And.intro ?_ ?_|exact zad (by omega)|exact zap (by omega)|refine zbb ?_ ?_|refine zao ?_ ?_|refine zau ?_ ?_|refine zal ?_ ?_|refine zav ?_|refine zaw ?_ ?_|refine zax ?_|refine zad ?_|fail)));(· (repeat' (first|omega|refine And.intro ?_ ?_|exact zad (by omega)|exact zap (by omega)|refine zbb ?_ ?_|refine zao ?_ ?_|refine zau ?_ ?_|refine zal ?_ ?_|refine zav ?_|refine zaw ?_ ?_|refine zax ?_|refine zad ?_|fail))))|(refine zaf _ _ Cst.h Cst.h ?_ ?_;· omega)|fail)|(refine SideN.mk ?_ ?_;· first|omega|exact List.cons_ne_nil _ _|fail)|refine zbm 0 j rfl (by omega) (fun _=>rfl) ?_|refine SideN.mk ⟨rfl,rfl,rfl,by dsimp only;omega,by simp only [maxLen];omega⟩ ?_|refine PtrN.loc _ rfl ?_|fail)));all_goals (conv=>whnf)
  ·(refine ⟨⟨j+1,by omega,by omega,?_,.inl ⟨rfl,rfl⟩,rfl,_,rfl,?_⟩⟩;rotate_left 1;exact .inl rfl;exact ⟨⟨_,rfl,Wk.refl _⟩,⟨_,rfl,Wk.refl _⟩,trivial⟩)
  ·have hje:j=old.length:=by omega
   subst hje
   refine ⟨⟨(k+1,cs++encT (tkF old (fs.getD k (0,0)))),⟨by simp only;omega,?_⟩,by simp only;omega,⟨⟨_,rfl,Wk.refl _⟩,trivial⟩,.inr ⟨⟨_,rfl,Wk.refl _⟩,⟨_,rfl,Wk.refl _⟩,⟨_,rfl,Wk.refl _⟩,⟨_,rfl,Wk.refl _⟩,⟨_,rfl,Wk.refl _⟩,trivial⟩,rfl,_,rfl,?_⟩⟩
   ·simp only [hcs]
    rw [← map_take_succ (tkF old) fs (0,0) k (by omega),List.flatMap_append]
    simp
   ·have hbc:∀ m,zac m cs:=fun m=>by rw [hcs];exact encT_below m _
    exact .inr ⟨by simp [zbe,below,zac,tr,zbk,encT_below],by simp [belowH,Blk.below,zac,below,encT_below,hbc,za5,encT,tkF]⟩
 ·have hke:k=fs.length:=by omega
  subst hke
  rw [List.take_length] at hcs
  subst hcs
  refine EndN.det (by simp [below,zac,encT_below]) ?_
  exact zbp ⟨Wk.refl _,Wk.refl _,zak,Wk.refl _,wk_sl _ _ _,zak,zak,trivial⟩
def bitAt (t:Tr) (i x:Nat):Nat:=((ft t.fs i).2 >>> posN t.n t.lp x) &&& 1
def rowS (a b:Tr) (i:Nat):Bool:=((ft a.fs i).1==(ft b.fs i).1)&&(List.range 25).all fun x=>bitAt a i x==bitAt b i x
def sameB (a b:Tr):Bool:=(a.fs.length==b.fs.length)&&(List.range a.fs.length).all (rowS a b)
theorem all_no {p:Nat→Bool} {n k:Nat} (hk:k<n) (h:p k=false):(List.range n).all p=false:=by
 rw [List.all_eq_false]
 exact ⟨k,List.mem_range.2 hk,by simp [h]⟩
theorem all_yes {p:Nat→Bool} {n:Nat} (h:∀ i,i<n→p i=true):(List.range n).all p=true:=by
 rw [List.all_eq_true]
 exact fun x hx=>h x (List.mem_range.1 hx)
theorem same_no {a b:Tr} {k:Nat} (hk:k<a.fs.length) (h:rowS a b k=false):sameB a b=false:=by
 unfold sameB
 rw [all_no hk h,Bool.and_false]
theorem same_c (a b:Tr) (ha:a.Ok) (hb:b.Ok) (H:Heap):VDet Tryz.prog 44 [.agg a.cells,.agg b.cells] H (.bool (sameB a b)):=by
 have hpa:=fun x hx H=>position_c a ha x hx H
 have hpb:=fun x hx H=>position_c b hb x hx H
 have hla:=ha.len
 have hlb:=hb.len
 have hsa:=fun i hi=>ha.small i hi
 have hsb:=fun i hi=>hb.small i hi
 have hqa:=fun x=>Nat.lt_of_lt_of_le (posN_lt (x:=x) ha.lp) ha.n5
 have hqb:=fun x=>Nat.lt_of_lt_of_le (posN_lt (x:=x) hb.lp) hb.n5
 have hno:=fun k=>@same_no a b k
 have hyes:∀ (e:a.fs.length=b.fs.length),(∀ i,i<a.fs.length→rowS a b i=true)→sameB a b=true:=fun e h=>by
  unfold sameB;rw [all_yes h,e];simp
 have hne:a.fs.length≠b.fs.length→sameB a b=false:=fun e=>by unfold sameB;simp [e]
 have hrn:∀ k,((ft a.fs k).1==(ft b.fs k).1)=false→rowS a b k=false:=fun k h=>by unfold rowS;rw [h];rfl
 have hrb:∀ k x,x<25→bitAt a k x≠bitAt b k x→rowS a b k=false:=fun k x hx h=>by
  unfold rowS;rw [all_no hx (by simpa using h),Bool.and_false]
 have hry:∀ k,((ft a.fs k).1==(ft b.fs k).1)=true→(∀ x,x<25→bitAt a k x=bitAt b k x)→rowS a b k=true:=fun k h h2=>by
  unfold rowS;rw [h,all_yes fun x hx=>by simpa using h2 x hx];rfl
 have eba:∀ k x,bitAt a k x=((ft a.fs k).2 >>> posN a.n a.lp x) &&& 1:=fun _ _=>rfl
 have ebb:∀ k x,bitAt b k x=((ft b.fs k).2 >>> posN b.n b.lp x) &&& 1:=fun _ _=>rfl
 generalize sameB a b=R at hno hyes hne ⊢
 generalize rowS a b=rS at hno hyes hrn hrb hry
 generalize bitAt a=ba at hrb hry eba
 generalize bitAt b=bb at hrb hry ebb
 obtain ⟨na,lpa,fa⟩:=a
 obtain ⟨nb,lpb,fb⟩:=b
 unfold Tr.cells at hpa hpb ⊢
 simp only at hpa hpb hla hlb hsa hsb hqa hqb hno hyes hne hrn hrb hry eba ebb ⊢
 refine zag Tryz.E0 zaa Tryz.func44 (by kernel_rfl) rfl (Nat.le_of_ble_eq_true rfl) rfl fun hcl hbl=>?_
 (repeat' ((conv=>whnf);(first|(refine IfN.id ?_;first|refine IfN.not ?_|refine za3 (fun _=>?_) (fun _=>?_)|fail)|fail)));all_goals (conv=>whnf)
 all_goals try (refine EndN.det trivial (Wk.of_eq ?_);rw [hne (by omega)])
 refine za9 Tryz.E0 zaa (σ:=Nat) (fun k=>k≤fa.length∧∀ i,i<k→rS i=true) (fun k=>fa.length-k) (fun k=>[(18,.v (.int .i64 k))]) (fun _=>_) _ 0 rfl hcl [2,3,16,17] rfl ⟨Nat.zero_le _,fun i hi=>absurd hi (Nat.not_lt_zero i)⟩ ⟨⟨_,rfl,Wk.refl _⟩,trivial⟩ rfl (fun _ _=>rfl) ?_
 rintro k ⟨hk,hok⟩
 clear hbl
 (repeat' ((conv=>whnf);(first|(refine IfN.id ?_;first|refine IfN.not ?_|refine za3 (fun _=>?_) (fun _=>?_)|(refine IfN.mk ?_ ?_ <;> intro _)|fail)|(refine SideN.mk ?_ ?_;· first|kernel_rfl|omega|exact List.cons_ne_nil _ _|fail)|refine zbm (0,0) k rfl (by omega) (fun _=>rfl) ?_|refine zah [] ?_|fail)));all_goals (conv=>whnf)
 ·rename_i hn
  rw [nm_eq] at hn
  refine za9 Tryz.E0 zaa (σ:=Nat) (fun x=>x≤25∧∀ y,y<x→ba k y=bb k y) (fun x=>25-x) (fun x=>[(32,.v (.int .i64 x))]) (fun _=>_) _ 0 rfl hcl [2,3,5,6,16,17,18] rfl ⟨Nat.zero_le _,fun i hi=>absurd hi (Nat.not_lt_zero i)⟩ ⟨⟨_,rfl,Wk.refl _⟩,trivial⟩ rfl (fun _ _=>rfl) ?_
  rintro x ⟨hx,hsame⟩
  have h1:=hsa k (by omega)
  have h2:=hsb k (by omega)
  unfold ft at h1 h2 eba ebb
  have h3:=hqa x
  have h4:=hqb x
  (repeat' ((conv=>whnf);(first|(refine IfN.id ?_;first|refine IfN.not ?_|refine za3 (fun _=>?_) (fun _=>?_)|fail)|(refine EqN.id ?_;first|(refine EqN.and _ _ Cst.h Cst.h ?_ ?_;· (repeat' (first|omega|refine And.intro ?_ ?_|exact zad (by omega)|exact zap (by omega)|refine zbb ?_ ?_|refine zao ?_ ?_|refine zau ?_ ?_|refine zal ?_ ?_|refine zav ?_|refine zaw ?_ ?_|refine zax ?_|refine zad ?_|fail)))|(refine EqN.shrN _ _ Cst.h Cst.h rfl ?_ ?_;· (repeat' (first|omega|refine And.intro ?_ ?_|exact zad (by omega)|exact zap (by omega)|refine zbb ?_ ?_|refine zao ?_ ?_|refine zau ?_ ?_|refine zal ?_ ?_|refine zav ?_|refine zaw ?_ ?_|refine zax ?_|refine zad ?_|fail)))|(refine zaf _ _ Cst.h Cst.h ?_ ?_;· omega)|fail)|(refine SideN.mk ?_ ?_;· first|kernel_rfl|omega|exact List.cons_ne_nil _ _|fail)|(refine CallD.id ?_;first|refine CallD.det _ (fun _ hq X=>hpa x (by omega) _) ?_|refine CallD.det _ (fun _ hq X=>hpb x (by omega) _) ?_|fail)|refine zbm (0,0) k rfl (by omega) (fun _=>rfl) ?_|refine zah [] ?_|fail)));all_goals (conv=>whnf)
  ·rename_i he
   have hxy:ba k x=bb k x:=by rw [eba,ebb];exact Int.natCast_inj.1 he
   (refine ⟨⟨x+1,⟨by omega,fun y hy=>by
    rcases Nat.lt_or_ge y x with h|h
    ·exact hsame y h
    ·have:y=x:=by omega
     exact this▸hxy⟩,by omega,?_,.inl ⟨rfl,rfl⟩,rfl,_,rfl,?_⟩⟩;rotate_left 1;exact .inl rfl;exact ⟨⟨_,rfl,Wk.refl _⟩,trivial⟩)
  ·rename_i he
   refine EndN.det trivial (Wk.of_eq ?_)
   rw [hno k (by omega) (hrb k x (by omega) fun h=>he (by rw [eba,ebb] at h;rw [h]))]
  ·have hk1:=hry k hn fun y hy=>hsame y (by omega)
   refine ⟨⟨k+1,⟨by omega,fun i hi=>?_⟩,by omega,⟨⟨_,rfl,Wk.refl _⟩,trivial⟩,.inr ⟨⟨_,rfl,Wk.refl _⟩,⟨_,rfl,Wk.refl _⟩,⟨_,rfl,Wk.refl _⟩,⟨_,rfl,Wk.refl _⟩,trivial⟩,rfl,_,rfl,.inr ⟨by simp [zbe,below,zac,tr,encT_below],by simp [belowH,Blk.below,zac,below,encT_below]⟩⟩⟩
   rcases Nat.lt_or_ge i k with h|h
   ·exact hok i h
   ·have:i=k:=by omega
    exact this▸hk1
 ·rename_i hn
  rw [nm_eq] at hn
  refine EndN.det trivial (Wk.of_eq ?_)
  rw [hno k (by omega) (hrn k hn)]
 ·refine EndN.det trivial (Wk.of_eq ?_)
  rw [hyes (by omega) (fun i hi=>hok i (by omega))]
theorem Same_c (a b:Tr) (ha:a.Ok) (hb:b.Ok) (H:Heap):VDet Tryz.prog 10 [.agg a.cells,.agg b.cells] H (.tup [.bool (sameB a b),.int .i64 0]):=by
 have hva:=fun H=>valid_t ha H
 have hvb:=fun H=>valid_t hb H
 have hs:=fun H=>same_c a b ha hb H
 generalize sameB a b=R at hs ⊢
 unfold Tr.cells at hva hvb hs ⊢
 refine zag Tryz.E0 zaa Tryz.func10 (by kernel_rfl) rfl (Nat.le_of_ble_eq_true rfl) rfl fun hcl hbl=>?_
 (repeat' ((conv=>whnf);(first|(refine IfN.id ?_;first|refine IfN.not ?_|refine IfN.tt rfl ?_|fail)|(refine CallN.id ?_;first|refine CallN.det _ (hva _) ?_|refine CallN.det _ (hvb _) ?_|refine CallN.det _ (hs _) ?_|fail)|fail)));conv=>whnf
 exact eT (by simp [below,zac])
theorem steps_c (t:Tr) (p:Nat) (H:Heap):VCall Tryz.prog 45 [.agg t.cells,.int .i64 p] H (fun r H'=>r=.clo (.func 89) [] [.ptr (H.length+1) 0,.ptr (H.length+0) 0]∧H'=H++[.box 27 t.cells,.box 3 [.int .i64 p]]):=by
 unfold Tr.cells
 refine zbg Tryz.E0 zaa Tryz.func45 (by kernel_rfl) rfl (Nat.le_of_ble_eq_true rfl) rfl fun hcl hbl=>?_
 conv=>whnf
 exact EndN.keep _ (Wk.refl _) ⟨rfl,rfl⟩
structure ItS (t:Tr) (K N:Nat) (p:Nat→Nat) (Hs Hm:Nat→Heap) (ip im:Nat):Prop where
 hp:∀ j,j≤K→(Hs j)[ip]? = some (.box 3 [.int .i64 (p j)])
 hm:∀ j,j<K→(Hm j)[im]? = some (.box 27 t.cells)
 hmp:∀ j,j<K→(Hm j)[ip]? = some (.box 3 [.int .i64 (p j)])
 hset:∀ j,j<K→(Hm j).set ip (.box 3 [.int .i64 (p (j+1))])=Hs (j+1)
 step:∀ j,j<K→p (j+1)=posN t.n t.lp (p j+1)
 cl:∀ j,j≤K→Closed (Hs j)
 len:∀ j,j≤K→(Hs j).length=N
 lenm:∀ j,j<K→(Hm j).length=N
 small:∀ j,p j<5
theorem iter_c (t:Tr) (ht:t.Ok) (K N:Nat) (p:Nat→Nat) (Hs Hm:Nat→Heap) (ip im i:Nat) (s:ItS t K N p Hs Hm ip im) (He:Heap)
  (hlen:He.length=N) (hlow:∀ (j:Nat) B,He[j]? = some B→(Hs 0)[j]? = some B∨B.below (Hs 0).length)
  (hyt:∀ j,j<K→VYield Tryz.prog i [.int .i64 (p j)] (Hs j++[]) (fun r H'=>r=.bool true∧H'=Hm j++[]))
  (hyf:VYield Tryz.prog i [.int .i64 (p K)] (Hs K++[]) (fun r H'=>r=.bool false∧H'=He++[])) :
  VCall Tryz.prog 89 [.clo (.yield i) [] [],.ptr ip 0,.ptr im 0] (Hs 0) (fun _ H'=>H'=He):=by
 have hpos:=fun j (hj:p j+1<9223372036854775808) H=>position_c t ht (p j+1) hj H
 obtain ⟨hp,hm,hmp,hset,step,cl,len,lenm,small⟩:=s
 obtain ⟨n,lp,fs⟩:=t
 unfold Tr.cells at hm hpos
 simp only at hm hpos step
 refine zbg Tryz.E0 zaa Tryz.func89 (by kernel_rfl) rfl (Nat.le_of_ble_eq_true rfl) rfl fun hcl hbl=>?_
 refine loop_B Tryz.E0 zaa (σ:=Nat) (fun j=>j≤K) (fun j=>K-j) (fun _=>[]) Hs (fun _=>[]) _ 0 (fun j hj=>(len j hj).trans (len 0 (Nat.zero_le _)).symm) cl [0,1,2] rfl (Nat.zero_le _) trivial rfl rfl (fun _ _=>rfl) ?_
 intro j hj
 have h1:=hp j hj
 have hN:=(len 0 (Nat.zero_le _)).symm
 rcases Nat.lt_or_ge j K with hjK|hjK
 ·have h2:=hm j hjK
  have h3:=hmp j hjK
  have h4:=small j
  (repeat' ((conv=>whnf);(first|refine IfN.tt rfl ?_|(refine zaf _ _ Cst.h Cst.h ?_ ?_;· omega)|refine SetN.mk _ rfl ?_|refine CallN.det _ (hpos j (by omega) _) ?_|refine CallN.fix _ _ _ _ (hyt j hjK) ((lenm j hjK).trans hN) rfl ?_|refine PtrN.base _ (by (repeat' (first|assumption|exact za4 _ rfl|exact zam rfl|refine zar (B':=?_) ?_|refine zai ?_|fail))) ?_|fail)));conv=>whnf
  refine ⟨⟨j+1,hjK,by omega,trivial,.inl ⟨rfl,rfl⟩,?_,[],rfl,.inl rfl⟩⟩
  rw [← step j hjK]
  exact hset j hjK
 ·have:j=K:=by omega
  subst this
  (repeat' ((conv=>whnf);(first|refine IfN.ff rfl ?_|refine CallN.fix _ _ _ _ hyf (hlen.trans hN) rfl ?_|refine PtrN.base _ (by (repeat' (first|assumption|exact za4 _ rfl|exact zam rfl|refine zar (B':=?_) ?_|refine zai ?_|fail))) ?_|fail)));conv=>whnf
  exact .cut (hlen.trans hN) hlow ⟨_,_,.refl _,Wk.refl _,by simp [below,zac],rfl⟩
def ixF (v:Nat):List Nat→Nat→Int
 | [],_=>-1
 | p::l,k=>if p=v then (k:Int) else ixF v l (k+1)
theorem index_c (l:List Nat) (v:Nat) (hl:l.length≤1000) (H:Heap):VDet Tryz.prog 83 [.sl none l.length (l.flatMap encN),.int .i64 v] H (.int .i64 (ixF v l 0)):=by
 refine zag Tryz.E0 zaa Tryz.func83 (by kernel_rfl) rfl (Nat.le_of_ble_eq_true rfl) rfl fun hcl hbl=>?_
 conv=>whnf
 refine za9 Tryz.E0 zaa (σ:=Nat) (fun k=>k≤l.length∧ixF v l 0=ixF v (l.drop k) k) (fun k=>l.length-k) (fun k=>[(8,.v (.int .i64 k))]) (fun _=>[]) _ 0 rfl hcl [0,1,7] rfl ⟨Nat.zero_le _,rfl⟩ ⟨⟨_,rfl,Wk.refl _⟩,trivial⟩ rfl (fun _ _=>rfl) ?_
 rintro k ⟨hk,hix⟩
 clear hbl
 have hd:k<l.length→ixF v (l.drop k) k=if l.getD k 0=v then (k:Int) else ixF v (l.drop (k+1)) (k+1):=fun h=>by
  rw [List.drop_eq_getElem_cons h]
  simp [ixF,List.getD,h]
 (repeat' ((conv=>whnf);(first|refine za3 (fun _=>?_) (fun _=>?_)|(refine zaf _ _ Cst.h Cst.h ?_ ?_;· omega)|(refine SideN.mk ?_ ?_;· first|omega|exact List.cons_ne_nil _ _|fail)|refine zbm 0 k rfl (by omega) (fun _=>rfl) ?_|fail)));all_goals (conv=>whnf)
 ·rename_i he
  have hlt:k<l.length:=by omega
  refine EndN.det trivial (Wk.of_eq ?_)
  rw [hix,hd hlt,if_pos (by omega)]
 ·rename_i he
  have hlt:k<l.length:=by omega
  (refine ⟨⟨k+1,⟨hlt,by rw [hix,hd hlt,if_neg (by omega)]⟩,by omega,?_,.inl ⟨rfl,rfl⟩,rfl,_,rfl,?_⟩⟩;rotate_left 1;exact .inl rfl;exact ⟨⟨_,rfl,Wk.refl _⟩,trivial⟩)
 ·have:k=l.length:=by omega
  subst this
  rw [List.drop_length] at hix
  refine EndN.det trivial (Wk.of_eq ?_)
  rw [hix]
  rfl
abbrev rdy (n0:Nat) (bk:RE) (N:FN) (ps:Array Tmp) (assign body:Code):Blk:=.loop .ready none (trE n0 bk) ⟨N.n,ps,assign,body⟩
abbrev dne (n0:Nat) (bk:RE) (N:FN) (ps:Array Tmp) (assign body:Code) (jp:Option Code):Blk:=.loop .done jp (trE n0 bk) ⟨N.n,ps,assign,body⟩
abbrev rndW (n0 k:Nat) (bk:RE) (N:FN) (ps:Array Tmp) (assign body:Code) (H:Heap) (x:Nat) (R:AV→Heap→Prop):Prop :=
 wpC Tryz.prog Tryz.kn Tryz.T ⟨N.n,some (n0+k)⟩ H.length assign (fun e top bot base k' loc=>match e with
   | .normal=>RndB Tryz.prog Tryz.kn Tryz.T H (n0+k) (trE n0 bk) ⟨N.n,ps,assign,body⟩ R top bot base k' loc
   | _=>False) (parRE ps.toList [.int .i64 x] (reB n0 bk)) [] H 0 []
theorem range_steps (t:Tr) (ht:t.Ok) {N:FN} {n0:Nat} {ps:Array Tmp} {assign body:Code} {Q:QR} {top bot:RE} {base:Heap} {k:Nat} {loc:Heap}
  (hbase:base.length=n0) (hcl:Closed base) (hN:N.r=none) (ts:List Nat) (bk:RE) (hbk:pickO ts top bot=some bk)
  (hps:∀ p∈ps.toList,p<N.n) (hps1:ps.size=1)
  (K:Nat) (p:Nat→Nat) (step:∀ j,j<K→p (j+1)=posN t.n t.lp (p j+1)) (small:∀ j,p j<5) (im ip:Nat)
  (ls lm:Nat→Heap) (le:Heap) (jp:Code) (h0:loc=ls 0)
  (lens:∀ j,j≤K→(ls j).length=k) (lenm:∀ j,j<K→(lm j).length=k) (lene:le.length=k)
  (him:∀ j,j<K→lget (lm j) im=some (.box 27 t.cells)) (hip:∀ j,j<K→lget (lm j) ip=some (.box 3 [.int .i64 (p j)])) (his:∀ j,j≤K→lget (ls j) ip=some (.box 3 [.int .i64 (p j)]))
  (hset:∀ j,j<K→(lm j).set ip (.box 3 [.int .i64 (p (j+1))])=ls (j+1))
  (bls:∀ j,j≤K→∀ B∈ls j,B.below (n0+(k+1))) (ble:∀ B∈le,B.below (n0+(k+1))) (bbk:zbe n0 (n0+(k+1)) bk)
  (hyt:∀ j,j<K→rndW n0 k bk N ps assign body (base++(ls j++[rdy n0 bk N ps assign body])) (p j) (fun r H'=>r=.bool true∧H'=base++(lm j++[rdy n0 bk N ps assign body])))
  (hyf:rndW n0 k bk N ps assign body (base++(ls K++[rdy n0 bk N ps assign body])) (p K) (fun r H'=>r=.bool false∧H'=base++(le++[dne n0 bk N ps assign body (some jp)])))
  (hQ:jumpN Q top bot base (k+1) (le++[.dead]) (some jp)) :
  RangeN Tryz.prog N n0 89 [] [.ptr (n0+ip) 0,.ptr (n0+im) 0] ps assign body Q top bot base k loc:=by
 subst hbase h0
 have hloopb:∀ st jp,(Blk.loop st jp (trE base.length bk) ⟨N.n,ps,assign,body⟩).below (base.length+(k+1)):=fun _ _=>get_below bbk
 have hk0:(ls 0).length=k:=lens 0 (Nat.zero_le _)
 have hlen:∀ j B,j≤K→(base++(ls j++[B])).length=base.length+(k+1):=fun j B hj=>by simp [lens j hj]
 have hiK:∀ j,j≤K→(base++(ls j++[rdy base.length bk N ps assign body]))[base.length+k]? = some (rdy base.length bk N ps assign body):=fun j hj=>by
  rw [List.getElem?_append_right (by omega),Nat.add_sub_cancel_left,List.getElem?_append_right (by rw [lens j hj];exact Nat.le_refl _),lens j hj,Nat.sub_self]
  rfl
 have hyY:∀ j R,j≤K→rndW base.length k bk N ps assign body (base++(ls j++[rdy base.length bk N ps assign body])) (p j) R→VYield Tryz.prog (base.length+k) [.int .i64 (p j)] (base++(ls j++[rdy base.length bk N ps assign body])) R:=fun j R hj h =>
  round_R Tryz.E0 zaa (hiK j hj) hps (by simp [hps1]) h
 have hit:=iter_c t ht K (base.length+(k+1)) p (fun j=>base++(ls j++[rdy base.length bk N ps assign body])) (fun j=>base++(lm j++[rdy base.length bk N ps assign body])) (base.length+ip) (base.length+im) (base.length+k)
  {
   hp:=fun j hj=>zam (by rw [zaq] at *;rw [List.getElem?_append_left (List.getElem?_eq_some_iff.1 (zaq ..▸his j hj)).1];exact zaq ..▸his j hj),
   hm:=fun j hj=>zam (by rw [zaq];rw [List.getElem?_append_left (List.getElem?_eq_some_iff.1 (zaq ..▸him j hj)).1];exact zaq ..▸him j hj),
   hmp:=fun j hj=>zam (by rw [zaq];rw [List.getElem?_append_left (List.getElem?_eq_some_iff.1 (zaq ..▸hip j hj)).1];exact zaq ..▸hip j hj),
   hset:=fun j hj=>by
    rw [zbf,List.set_append_left _ _ (List.getElem?_eq_some_iff.1 (zaq ..▸hip j hj)).1,hset j hj],
   step:=step,
   cl:=fun j hj=>closed_loc hcl fun B hB=>by
    rw [hlen j _ hj]
    rcases List.mem_append.1 hB with h|h
    ·exact bls j hj B h
    ·simp only [List.mem_singleton] at h;subst h;exact hloopb _ _,
   len:=fun j hj=>hlen j _ hj,
   lenm:=fun j hj=>by simp [lenm j hj],
   small:=small }
  (base++(le++[dne base.length bk N ps assign body (some jp)])) (by simp [lene])
  (low_loc fun B hB=>by
   rw [hlen 0 _ (Nat.zero_le _)]
   rcases List.mem_append.1 hB with h|h
   ·exact ble B h
   ·simp only [List.mem_singleton] at h;subst h;exact hloopb _ _)
  (fun j hj=>by simp only [List.append_nil];exact hyY j _ (by omega) (hyt j hj))
  (by simp only [List.append_nil];exact hyY K _ (Nat.le_refl _) hyf)
 refine .mk ⟨(fun i hi=>by rw [hN] at hi;cases hi),ts,bk,(fun _ H'=>H'=base++(le++[dne base.length bk N ps assign body (some jp)])),hbk,?_,?_⟩
 ·rw [List.append_assoc]
  exact hit
 ·rintro r H' rfl
  refine ⟨base,k+1,le++[dne base.length bk N ps assign body (some jp)],.done,some jp,le++[.dead],rfl,by simp [lene],rfl,?_,by simp,?_,hQ⟩
  ·rw [zaq,List.getElem?_append_right (by omega),lene,Nat.sub_self];rfl
  ·rw [lset_some (by simp [lene])]
   rw [List.set_append_right _ _ (by omega),lene,Nat.sub_self]
   rfl
def pth (n lp p0:Nat):Nat→Nat
 | 0=>p0
 | j+1=>posN n lp (pth n lp p0 j+1)
def olds (n lp p0:Nat):Nat→List Nat
 | 0=>[]
 | j+1=>olds n lp p0 j++[pth n lp p0 j]
theorem zbd (n lp p0:Nat):∀ j,(olds n lp p0 j).length=j
 | 0=>rfl
 | j+1=>by simp [olds,zbd n lp p0 j]
theorem olds_get (n lp p0:Nat):∀ {j i:Nat},i<j→(olds n lp p0 j).getD i 0=pth n lp p0 i
 | j+1,i,h=>by
   simp only [olds]
   rcases Nat.lt_or_ge i j with h2|h2
   ·have:=olds_get n lp p0 h2
    simp only [List.getD_eq_getElem?_getD] at this ⊢
    rw [List.getElem?_append_left (by rw [zbd];exact h2)]
    exact this
   ·have:i=j:=by omega
    subst this
    simp only [List.getD_eq_getElem?_getD]
    rw [List.getElem?_append_right (by rw [zbd];exact Nat.le_refl _),zbd,Nat.sub_self]
    rfl
def cel (n lp p0 j:Nat):List AV:=(olds n lp p0 j).flatMap encN
theorem cel_succ (n lp p0 j:Nat):cel n lp p0 j++[.int .i64 (pth n lp p0 j:Nat)]=cel n lp p0 (j+1):=by
 simp [cel,olds,encN]
def sufK (n lp p0:Nat):Nat:=n-min p0 lp
def sufI (lp p0:Nat):Nat:=lp-p0
theorem suf_chk:((List.range 6).all fun n=>(List.range n).all fun lp=>(List.range n).all fun p0=>(List.range (sufK n lp p0)).all (fun j=>decide (ixF (pth n lp p0 j) (olds n lp p0 j) 0=-1))&&decide (ixF (pth n lp p0 (sufK n lp p0)) (olds n lp p0 (sufK n lp p0)) 0=sufI lp p0))=true:=by kernel_rfl
theorem suf_get {n lp p0:Nat} (hn:n≤5) (hl:lp<n) (hp:p0<n):(∀ j,j<sufK n lp p0→ixF (pth n lp p0 j) (olds n lp p0 j) 0=-1)∧ixF (pth n lp p0 (sufK n lp p0)) (olds n lp p0 (sufK n lp p0)) 0=sufI lp p0:=by
 have h:=suf_chk
 rw [List.all_eq_true] at h
 have h1:=h n (List.mem_range.2 (by omega))
 rw [List.all_eq_true] at h1
 have h2:=h1 lp (List.mem_range.2 hl)
 rw [List.all_eq_true] at h2
 have h3:=h2 p0 (List.mem_range.2 hp)
 simp only [Bool.and_eq_true,decide_eq_true_eq] at h3
 refine ⟨fun j hj=>?_,h3.2⟩
 have h4:=h3.1
 rw [List.all_eq_true] at h4
 simpa using h4 j (List.mem_range.2 hj)
theorem pth_lt {n lp p0:Nat} (hl:lp<n) (hp:p0<n):∀ j,pth n lp p0 j<n
 | 0=>hp
 | _+1=>posN_lt hl
def blk7 (tc a:List AV) (n0:Nat) (cl:List AV) (j p:Nat):Heap:=[.box 27 tc,.box 27 a,.box 33 [.int .i64 0],.box 22 [.sl (some (n0+6)) j cl],.box 27 tc,.box 3 [.int .i64 p],.tok 3 1 cl.length]
theorem blk7_below {tc a:List AV} {n0:Nat} {cl:List AV} {j p:Nat} (h1:∀ m,zac m tc) (h2:∀ m,zac m a) (h3:∀ m,zac m cl):∀ B∈blk7 tc a n0 cl j p,B.below (n0+(7+1)):=by
 intro B hB
 simp only [blk7,List.mem_cons,List.not_mem_nil,or_false] at hB
 rcases hB with rfl|rfl|rfl|rfl|rfl|rfl|rfl
 ·exact h1 _
 ·exact h2 _
 ·exact ⟨trivial,trivial⟩
 ·exact ⟨⟨fun t ht=>by cases ht;omega,h3 _⟩,trivial⟩
 ·exact h1 _
 ·exact ⟨trivial,trivial⟩
 ·trivial
def zm:List AV:=[.int .u8 0,.int .i64 0,.nils,.int .i64 0,.nils,.nils,.nils]
theorem cel_below (n lp p0 j m:Nat):zac m (cel n lp p0 j):=zbk m _
def sufT (t:Tr) (x:Nat):Tr:=takenT t (olds t.n t.lp (posN t.n t.lp x) (sufK t.n t.lp (posN t.n t.lp x))) (sufI t.lp (posN t.n t.lp x))
theorem Suffix_c (t:Tr) (ht:t.Ok) (x:Nat) (hx:x<9223372036854775808) (H:Heap):VDet Tryz.prog 37 [.agg t.cells,.int .i64 x] H (.tup [.agg (sufT t x).cells,.int .i64 0]):=by
 have hv:=fun H=>valid_t ht H
 have hp:=fun H=>position_c t ht x hx H
 have hq0:=posN_lt (x:=x) ht.lp
 unfold sufT
 generalize posN t.n t.lp x=p0 at hp hq0 ⊢
 have hst:=fun H=>steps_c t p0 H
 obtain ⟨hno,hyes⟩:=suf_get ht.n5 ht.lp hq0
 have hk5:sufK t.n t.lp p0≤5:=by unfold sufK;have:=ht.n5;omega
 have hsm:∀ j,pth t.n t.lp p0 j<5:=fun j=>Nat.lt_of_lt_of_le (pth_lt ht.lp hq0 j) ht.n5
 have hix:∀ j H,j≤5→VDet Tryz.prog 83 [.sl none j (cel t.n t.lp p0 j),.int .i64 (pth t.n t.lp p0 j:Nat)] H (.int .i64 (ixF (pth t.n t.lp p0 j) (olds t.n t.lp p0 j) 0)):=fun j H hj=>by
  have:=index_c (olds t.n t.lp p0 j) (pth t.n t.lp p0 j) (by rw [zbd];omega) H
  rwa [zbd] at this
 have htk:∀ H,VDet Tryz.prog 46 [.agg t.cells,.sl none (sufK t.n t.lp p0) (cel t.n t.lp p0 (sufK t.n t.lp p0)),.int .i64 (sufI t.lp p0:Nat)] H (.agg (takenT t (olds t.n t.lp p0 (sufK t.n t.lp p0)) (sufI t.lp p0)).cells):=fun H=>by
  have:=taken_c t ht (olds t.n t.lp p0 (sufK t.n t.lp p0)) (sufI t.lp p0) (by rw [zbd];exact hk5) (fun i hi=>by
   rw [zbd] at hi
   rw [olds_get _ _ _ hi]
   exact hsm i) H
  rwa [zbd] at this
 have hix2:=fun H=>hix (sufK t.n t.lp p0) H hk5
 have hst5:VCall Tryz.prog 45 [.agg t.cells,.int .i64 p0] (H++[.box 27 t.cells,.box 27 [.int .u8 0,.int .i64 0,.nils,.int .i64 0,.nils,.nils,.nils],.box 33 [.int .i64 0],.box 22 [.nils]]) (fun r H'=>r=.clo (.func 89) [] [.ptr (H.length+5) 0,.ptr (H.length+4) 0]∧H'=(H++[.box 27 t.cells,.box 27 [.int .u8 0,.int .i64 0,.nils,.int .i64 0,.nils,.nils,.nils],.box 33 [.int .i64 0],.box 22 [.nils]])++[.box 27 t.cells,.box 3 [.int .i64 p0]]):=by
  have:=steps_c t p0 (H++[.box 27 t.cells,.box 27 [.int .u8 0,.int .i64 0,.nils,.int .i64 0,.nils,.nils,.nils],.box 33 [.int .i64 0],.box 22 [.nils]])
  rw [List.length_append] at this
  exact this
 generalize hcs:t.cells=tc at hv hp hst5 htk ⊢
 have hbt:∀ m,zac m tc:=fun m=>by rw [← hcs];simp [Tr.cells,below,zac,encT_below]
 have hl7:tc=[.int .u8 5,.int .i64 t.n,.sl none 0 [],.int .i64 t.lp,.sl none t.fs.length (t.fs.flatMap encT),.sl none 0 [],.sl none 0 []]:=hcs.symm
 generalize takenT t (olds t.n t.lp p0 (sufK t.n t.lp p0)) (sufI t.lp p0)=R at htk ⊢
 have hbr:∀ m,zac m R.cells:=fun m=>by simp [Tr.cells,below,zac,encT_below]
 rw [show R.cells=[.int .u8 5,.int .i64 R.n,.sl none 0 [],.int .i64 R.lp,.sl none R.fs.length (R.fs.flatMap encT),.sl none 0 [],.sl none 0 []] from rfl] at htk ⊢
 subst hl7
 refine zag Tryz.E0 zaa Tryz.func37 (by kernel_rfl) rfl (Nat.le_of_ble_eq_true rfl) rfl fun hcl hbl=>?_
 (repeat' ((conv=>whnf);(first|(refine IfN.id ?_;first|refine IfN.not ?_|refine IfN.tt rfl ?_|refine IfN.ff rfl ?_|fail)|refine SideN.mk (by kernel_rfl) ?_|refine CallN.det _ (hv _) ?_|refine CallD.det _ (fun _ hq X=>hp _) ?_|refine CallD.grow _ _ _ 6 hst5 rfl rfl rfl ?_|refine zah [] ?_|fail)));conv=>whnf
 refine RangeN.tokB 3 0 3 1 rfl rfl rfl rfl rfl ?_
 refine range_steps t ht rfl hcl rfl [2,4,5,6] _ rfl (by simp) rfl (sufK t.n t.lp p0) (pth t.n t.lp p0) (fun _ _=>rfl) hsm 4 5
  (fun j=>blk7 _ zm H.length (cel t.n t.lp p0 j) j (pth t.n t.lp p0 j)) (fun j=>blk7 _ zm H.length (cel t.n t.lp p0 (j+1)) (j+1) (pth t.n t.lp p0 j)) (blk7 _ R.cells H.length (cel t.n t.lp p0 (sufK t.n t.lp p0)) (sufK t.n t.lp p0) (pth t.n t.lp p0 (sufK t.n t.lp p0))) .ret rfl
  (fun _ _=>rfl) (fun _ _=>rfl) rfl (fun _ _=>rfl) (fun _ _=>rfl) (fun _ _=>rfl) (fun _ _=>rfl)
  (fun _ _=>blk7_below hbt (fun m=>by simp [zm,zac,below]) (cel_below _ _ _ _)) (blk7_below hbt hbr (cel_below _ _ _ _)) (by simp [zbe,below,tr]) ?_ ?_ ?_
 ·intro j hj
  have hj5:j≤5:=by omega
  have hixj:=hix j
  rw [hno j hj] at hixj
  conv=>whnf
  refine ⟨none,_,zam rfl,zbf,?_⟩
  (repeat' ((conv=>whnf);(first|refine SetN.mk _ zbf ?_|refine IfN.ff rfl ?_|refine CallN.det _ (zbc (hixj _ hj5) (by (repeat' (first|exact trivial|refine And.intro ?_ ?_|exact Wk.refl _|exact wk_sl _ _ _|fail));done)) ?_|refine SideN.mk ⟨rfl,rfl,rfl,by dsimp only;omega,by simp only [maxLen];omega⟩ ?_|refine PtrN.base _ (by (repeat' (first|assumption|exact za4 _ rfl|exact zam rfl|refine zar (B':=?_) ?_|refine zai ?_|fail))) ?_|fail)));conv=>whnf
  refine ⟨none,none,true,.ready,_,.normal,zam rfl,?_,?_,low_loc (fun B hB=>?_),rfl,rfl⟩
  ·rw [zbf,← cel_succ]
   rfl
  ·simp only [List.length_append,List.length_set]
  ·rcases List.mem_append.1 hB with h|h
   ·exact Blk.below_mono (Nat.le_of_eq (by simp [blk7])) (blk7_below hbt (fun m=>by simp [zm,zac,below]) (cel_below _ _ _ _) B h)
   ·simp only [List.mem_singleton] at h
    subst h
    exact get_below (by simp [zbe,below,tr,blk7])
 ·rw [hyes] at hix2
  conv=>whnf
  refine ⟨none,_,zam rfl,zbf,?_⟩
  (repeat' ((conv=>whnf);(first|refine SetN.mk _ zbf ?_|refine IfN.tt rfl ?_|(refine CallN.id ?_;first|refine CallN.det _ (zbc (hix2 _) (by (repeat' (first|exact trivial|refine And.intro ?_ ?_|exact Wk.refl _|exact wk_sl _ _ _|fail));done)) ?_|refine CallN.det _ (zbc (htk _) (by (repeat' (first|exact trivial|refine And.intro ?_ ?_|exact Wk.refl _|exact wk_sl _ _ _|fail));done)) ?_|fail)|refine PtrN.base _ (by (repeat' (first|assumption|exact za4 _ rfl|exact zam rfl|refine zar (B':=?_) ?_|refine zai ?_|fail))) ?_|fail)));conv=>whnf
  refine ⟨none,some .ret,false,.done,_,.ret,zam rfl,?_,?_,low_loc (fun B hB=>?_),rfl,rfl⟩
  ·rw [zbf]
   rfl
  ·simp only [List.length_append,List.length_set]
  ·rcases List.mem_append.1 hB with h|h
   ·exact Blk.below_mono (Nat.le_of_eq (by simp [blk7])) (blk7_below hbt hbr (cel_below _ _ _ _) B h)
   ·simp only [List.mem_singleton] at h
    subst h
    exact get_below (by simp [zbe,below,tr,blk7])
 ·conv=>whnf
  exact eT (by simp [below,zac,encT_below])
theorem taken_ok {t:Tr} (ht:t.Ok) (old:List Nat) (lp:Nat) (h1:1≤old.length) (h5:old.length≤5) (hl:lp<old.length):(takenT t old lp).Ok:=by
 have hg:∀ i,ft (t.fs.map (tkF old)) i=if i<t.fs.length then tkF old (ft t.fs i) else (0,0):=fun i=>by
  unfold ft
  by_cases hi:i<t.fs.length
  ·simp [hi]
  ·simp [hi]
 refine ⟨h1,h5,hl,by simpa [takenT] using ht.len,fun i hi=>?_,fun i hi=>?_,fun i hi=>?_⟩
 ·have hi':i<t.fs.length:=by simpa [takenT] using hi
  simp only [takenT]
  rw [hg,if_pos hi']
  exact ht.cap i hi'
 ·have hi':i+1<t.fs.length:=by simpa [takenT] using hi
  simp only [takenT]
  rw [hg,if_pos (by omega),hg,if_pos hi']
  exact ht.inc i hi'
 ·have hi':i<t.fs.length:=by simpa [takenT] using hi
  simp only [takenT]
  rw [hg,if_pos hi']
  exact tkK_lt _ _ _
def shT (t:Tr) (j x:Nat):Tr:=takenT t (olds t.n t.lp 0 (j+1)) x
def shB (t:Tr) (j x:Nat):Bool:=sameB (shT t j x) t
theorem Short_c (t:Tr) (ht:t.Ok) (K L:Nat) (hK:K<t.n) (hL:L≤K) (hno:∀ j,j<K→∀ x,x≤j→shB t j x=false) (hno2:∀ x,x<L→shB t K x=false) (hyes:shB t K L=true) (H:Heap) :
  VDet Tryz.prog 11 [.agg t.cells] H (.tup [.agg (shT t K L).cells,.int .i64 0]):=by
 have hv:=fun H=>valid_t ht H
 have h5:=ht.n5
 have hq0:0<t.n:=by have:=ht.n1;omega
 have hsm:∀ j,pth t.n t.lp 0 j<5:=fun j=>Nat.lt_of_lt_of_le (pth_lt ht.lp hq0 j) ht.n5
 have htk:∀ (j x:Nat) H,j≤4→VDet Tryz.prog 46 [.agg t.cells,.sl none (j+1) (cel t.n t.lp 0 (j+1)),.int .i64 x] H (.agg (shT t j x).cells):=fun j x H hj=>by
  have:=taken_c t ht (olds t.n t.lp 0 (j+1)) x (by rw [zbd];omega) (fun i hi=>by
   rw [zbd] at hi
   rw [olds_get _ _ _ hi]
   exact hsm i) H
  rwa [zbd] at this
 have hsa:∀ (j x:Nat) H,j≤4→x≤j→VDet Tryz.prog 44 [.agg (shT t j x).cells,.agg t.cells] H (.bool (shB t j x)):=fun j x H hj hx =>
  same_c _ _ (taken_ok ht _ _ (by rw [zbd];omega) (by rw [zbd];omega) (by rw [zbd];omega)) ht H
 have hst5:VCall Tryz.prog 45 [.agg t.cells,.int .i64 (0:Nat)] (H++[.box 27 t.cells,.box 27 [.int .u8 0,.int .i64 0,.nils,.int .i64 0,.nils,.nils,.nils],.box 33 [.int .i64 0],.box 22 [.nils]]) (fun r H'=>r=.clo (.func 89) [] [.ptr (H.length+5) 0,.ptr (H.length+4) 0]∧H'=(H++[.box 27 t.cells,.box 27 [.int .u8 0,.int .i64 0,.nils,.int .i64 0,.nils,.nils,.nils],.box 33 [.int .i64 0],.box 22 [.nils]])++[.box 27 t.cells,.box 3 [.int .i64 (0:Nat)]]):=by
  have:=steps_c t 0 (H++[.box 27 t.cells,.box 27 [.int .u8 0,.int .i64 0,.nils,.int .i64 0,.nils,.nils,.nils],.box 33 [.int .i64 0],.box 22 [.nils]])
  rw [List.length_append] at this
  exact this
 generalize hcs:t.cells=tc at hv hst5 htk hsa ⊢
 have hbt:∀ m,zac m tc:=fun m=>by rw [← hcs];simp [Tr.cells,below,zac,encT_below]
 have hl7:tc=[.int .u8 5,.int .i64 t.n,.sl none 0 [],.int .i64 t.lp,.sl none t.fs.length (t.fs.flatMap encT),.sl none 0 [],.sl none 0 []]:=hcs.symm
 generalize shB t=B at hno hno2 hyes hsa
 generalize shT t=R at htk hsa ⊢
 have hbr:∀ m,zac m (R K L).cells:=fun m=>by simp [Tr.cells,below,zac,encT_below]
 have hrc:∀ j x,(R j x).cells=[.int .u8 5,.int .i64 (R j x).n,.sl none 0 [],.int .i64 (R j x).lp,.sl none (R j x).fs.length ((R j x).fs.flatMap encT),.sl none 0 [],.sl none 0 []]:=fun _ _=>rfl
 simp only [hrc] at htk hsa ⊢
 subst hl7
 refine zag Tryz.E0 zaa Tryz.func11 (by kernel_rfl) rfl (Nat.le_of_ble_eq_true rfl) rfl fun hcl hbl=>?_
 (repeat' ((conv=>whnf);(first|(refine IfN.id ?_;first|refine IfN.not ?_|refine IfN.tt rfl ?_|fail)|refine CallN.det _ (hv _) ?_|refine CallN.grow _ _ _ 6 hst5 rfl rfl rfl ?_|fail)));conv=>whnf
 refine RangeN.tokB 3 0 3 1 rfl rfl rfl rfl rfl ?_
 refine range_steps t ht rfl hcl rfl [1,2,3,4] _ rfl (by simp) rfl K (pth t.n t.lp 0) (fun _ _=>rfl) hsm 4 5
  (fun j=>blk7 _ zm H.length (cel t.n t.lp 0 j) j (pth t.n t.lp 0 j)) (fun j=>blk7 _ zm H.length (cel t.n t.lp 0 (j+1)) (j+1) (pth t.n t.lp 0 j)) (blk7 _ (R K L).cells H.length (cel t.n t.lp 0 (K+1)) (K+1) (pth t.n t.lp 0 K)) .ret rfl
  (fun _ _=>rfl) (fun _ _=>rfl) rfl (fun _ _=>rfl) (fun _ _=>rfl) (fun _ _=>rfl) (fun _ _=>rfl)
  (fun _ _=>blk7_below hbt (fun m=>by simp [zm,zac,below]) (cel_below _ _ _ _)) (blk7_below hbt hbr (cel_below _ _ _ _)) (by simp [zbe,below,tr]) ?_ ?_ ?_
 ·intro j hj
  conv=>whnf
  refine ⟨none,_,zam rfl,zbf,?_⟩
  (repeat' ((conv=>whnf);(first|refine SetN.mk _ zbf ?_|refine SideN.mk ⟨rfl,rfl,rfl,by dsimp only;omega,by simp only [maxLen];omega⟩ ?_|refine PtrN.base _ (by (repeat' (first|assumption|exact za4 _ rfl|exact zam rfl|refine zar (B':=?_) ?_|refine zai ?_|fail))) ?_|fail)));conv=>whnf
  refine LoopN.base_eq (H++(blk7 _ zm H.length (cel t.n t.lp 0 (j+1)) (j+1) (pth t.n t.lp 0 j)++[_])) (by rw [← cel_succ];rfl) ?_
  refine za9 Tryz.E0 zaa (σ:=Nat) (fun x=>x≤j+1) (fun x=>j+1-x) (fun x=>[(21,.v (.int .i64 x))]) (fun _=>[]) _ 0 (by simp [blk7]) (closed_loc hcl fun C hC=>?_) [1,2,3,4,20] rfl (Nat.zero_le _) ⟨⟨_,rfl,Wk.refl _⟩,trivial⟩ rfl (fun _ _=>rfl) ?_
  ·rcases List.mem_append.1 hC with h|h
   ·exact Blk.below_mono (Nat.le_of_eq (by simp [blk7])) (blk7_below hbt (fun m=>by simp [zm,zac,below]) (cel_below _ _ _ _) C h)
   ·simp only [List.mem_singleton] at h
    subst h
    exact get_below (by simp [zbe,below,tr,blk7])
  ·intro x hx
   have hB:x≤j→B j x=false:=hno j hj x
   have h1:=htk j x
   have h2:∀ H,x≤j→VDet Tryz.prog 44 _ H (.bool (B j x)):=fun H h=>hsa j x H (by omega) h
   (repeat' ((conv=>whnf);(first|(refine IfN.id ?_;first|refine IfN.ff (hB (by omega)) ?_|refine zas (by omega) ?_|refine za3 (fun _=>?_) (fun _=>?_)|fail)|(refine zaf _ _ Cst.h Cst.h ?_ ?_;· omega)|(refine CallN.id ?_;first|refine CallN.det _ (zbc (h1 _ (by omega)) (by (repeat' (first|exact trivial|refine And.intro ?_ ?_|exact Wk.refl _|exact wk_sl _ _ _|fail));done)) ?_|refine CallN.det _ (hsa j x _ (by omega) (by omega)) ?_|fail)|refine PtrN.base _ (by (repeat' (first|assumption|exact za4 _ rfl|exact zam rfl|refine zar (B':=?_) ?_|refine zai ?_|fail))) ?_|fail)));all_goals (conv=>whnf)
   ·(refine ⟨⟨x+1,by omega,by omega,?_,.inl ⟨rfl,rfl⟩,rfl,_,rfl,?_⟩⟩;rotate_left 1;exact .inr ⟨by simp [zbe,below,zac,tr,encT_below,zbk],by simp [belowH,Blk.below,zac,below,encT_below,zbk]⟩;exact ⟨⟨_,rfl,Wk.refl _⟩,trivial⟩)
   ·refine ⟨none,none,true,.ready,_,.normal,zam rfl,?_,?_,low_loc (fun C hC=>?_),rfl,rfl⟩
    ·rw [zbf]
     rfl
    ·simp [blk7]
    ·rcases List.mem_append.1 hC with h|h
     ·exact Blk.below_mono (Nat.le_of_eq (by simp [blk7])) (blk7_below hbt (fun m=>by simp [zm,zac,below]) (cel_below _ _ _ _) C h)
     ·simp only [List.mem_singleton] at h
      subst h
      exact get_below (by simp [zbe,below,tr,blk7])
 ·conv=>whnf
  refine ⟨none,_,zam rfl,zbf,?_⟩
  (repeat' ((conv=>whnf);(first|refine SetN.mk _ zbf ?_|refine SideN.mk ⟨rfl,rfl,rfl,by dsimp only;omega,by simp only [maxLen];omega⟩ ?_|refine PtrN.base _ (by (repeat' (first|assumption|exact za4 _ rfl|exact zam rfl|refine zar (B':=?_) ?_|refine zai ?_|fail))) ?_|fail)));conv=>whnf
  refine LoopN.base_eq (H++(blk7 _ zm H.length (cel t.n t.lp 0 (K+1)) (K+1) (pth t.n t.lp 0 K)++[_])) (by rw [← cel_succ];rfl) ?_
  refine za9 Tryz.E0 zaa (σ:=Nat) (fun x=>x≤L) (fun x=>L-x) (fun x=>[(21,.v (.int .i64 x))]) (fun _=>[]) _ 0 (by simp [blk7]) (closed_loc hcl fun C hC=>?_) [1,2,3,4,20] rfl (Nat.zero_le _) ⟨⟨_,rfl,Wk.refl _⟩,trivial⟩ rfl (fun _ _=>rfl) ?_
  ·rcases List.mem_append.1 hC with h|h
   ·exact Blk.below_mono (Nat.le_of_eq (by simp [blk7])) (blk7_below hbt (fun m=>by simp [zm,zac,below]) (cel_below _ _ _ _) C h)
   ·simp only [List.mem_singleton] at h
    subst h
    exact get_below (by simp [zbe,below,tr,blk7])
  ·intro x hx
   have h1:=htk K x
   rcases Nat.lt_or_ge x L with hxL|hxL
   ·have hB:B K x=false:=hno2 x hxL
    (repeat' ((conv=>whnf);(first|(refine IfN.id ?_;first|refine IfN.ff hB ?_|refine zan (by omega) ?_|fail)|(refine zaf _ _ Cst.h Cst.h ?_ ?_;· omega)|(refine CallN.id ?_;first|refine CallN.det _ (zbc (h1 _ (by omega)) (by (repeat' (first|exact trivial|refine And.intro ?_ ?_|exact Wk.refl _|exact wk_sl _ _ _|fail));done)) ?_|refine CallN.det _ (hsa K x _ (by omega) (by omega)) ?_|fail)|refine PtrN.base _ (by (repeat' (first|assumption|exact za4 _ rfl|exact zam rfl|refine zar (B':=?_) ?_|refine zai ?_|fail))) ?_|fail)));conv=>whnf
    (refine ⟨⟨x+1,by omega,by omega,?_,.inl ⟨rfl,rfl⟩,rfl,_,rfl,?_⟩⟩;rotate_left 1;exact .inr ⟨by simp [zbe,below,zac,tr,encT_below,zbk],by simp [belowH,Blk.below,zac,below,encT_below,zbk]⟩;exact ⟨⟨_,rfl,Wk.refl _⟩,trivial⟩)
   ·have hxe:x=L:=by omega
    subst hxe
    (repeat' ((conv=>whnf);(first|refine SetN.mk _ zbf ?_|(refine IfN.id ?_;first|refine IfN.tt hyes ?_|refine zan (by omega) ?_|fail)|(refine CallN.id ?_;first|refine CallN.det _ (zbc (h1 _ (by omega)) (by (repeat' (first|exact trivial|refine And.intro ?_ ?_|exact Wk.refl _|exact wk_sl _ _ _|fail));done)) ?_|refine CallN.det _ (hsa K x _ (by omega) (by omega)) ?_|fail)|refine PtrN.base _ (by (repeat' (first|assumption|exact za4 _ rfl|exact zam rfl|refine zar (B':=?_) ?_|refine zai ?_|fail))) ?_|fail)));conv=>whnf
    refine ⟨none,some .ret,false,.done,_,.ret,zam rfl,?_,?_,low_loc (fun C hC=>?_),rfl,rfl⟩
    ·rw [zbf]
     rfl
    ·simp [blk7]
    ·rcases List.mem_append.1 hC with h|h
     ·exact Blk.below_mono (Nat.le_of_eq (by simp [blk7])) (blk7_below hbt hbr (cel_below _ _ _ _) C h)
     ·simp only [List.mem_singleton] at h
      subst h
      exact get_below (by simp [zbe,below,tr,blk7])
 ·conv=>whnf
  exact eT (by simp [below,zac,encT_below])
end
end Go.Proofs.YtjflngchbeegcaaGreatDoor
namespace Go.Proofs.YtjflngchbeegcaaGreatDoor.P10.C
open Go.Vsi
section
attribute [local irreducible] VW VCall VO bits
theorem steps_c (t:Tr) (p:Nat) (H:Heap):VCall Tryz.prog 45 [.agg t.cells,.int .i64 p] H (fun r H'=>r=.clo (.func 89) [] [.ptr (H.length+1) 0,.ptr (H.length+0) 0]∧H'=H++[.box 27 t.cells,.box 3 [.int .i64 p]]):=by
 unfold Tr.cells
 refine zbg Tryz.E0 zaa Tryz.func45 (by kernel_rfl) rfl (Nat.le_of_ble_eq_true rfl) rfl fun hcl hbl=>?_
 conv=>whnf
 exact EndN.keep _ (Wk.refl _) ⟨rfl,rfl⟩
structure ItS (t:Tr) (K N:Nat) (p:Nat→Nat) (Hs Hm:Nat→Heap) (ip im:Nat):Prop where
 hp:∀ j,j≤K→(Hs j)[ip]? = some (.box 3 [.int .i64 (p j)])
 hm:∀ j,j<K→(Hm j)[im]? = some (.box 27 t.cells)
 hmp:∀ j,j<K→(Hm j)[ip]? = some (.box 3 [.int .i64 (p j)])
 hset:∀ j,j<K→(Hm j).set ip (.box 3 [.int .i64 (p (j+1))])=Hs (j+1)
 step:∀ j,j<K→p (j+1)=posN t.n t.lp (p j+1)
 cl:∀ j,j≤K→Closed (Hs j)
 len:∀ j,j≤K→(Hs j).length=N
 lenm:∀ j,j<K→(Hm j).length=N
 small:∀ j,p j<5
theorem iter_c (t:Tr) (ht:t.Ok) (K N:Nat) (p:Nat→Nat) (Hs Hm:Nat→Heap) (ip im i:Nat) (s:ItS t K N p Hs Hm ip im) (He:Heap)
  (hlen:He.length=N) (hlow:∀ (j:Nat) B,He[j]? = some B→(Hs 0)[j]? = some B∨B.below (Hs 0).length)
  (hyt:∀ j,j<K→VYield Tryz.prog i [.int .i64 (p j)] (Hs j++[]) (fun r H'=>r=.bool true∧H'=Hm j++[]))
  (hyf:VYield Tryz.prog i [.int .i64 (p K)] (Hs K++[]) (fun r H'=>r=.bool false∧H'=He++[])) :
  VCall Tryz.prog 89 [.clo (.yield i) [] [],.ptr ip 0,.ptr im 0] (Hs 0) (fun _ H'=>H'=He):=by
 have hpos:=fun j (hj:p j+1<9223372036854775808) H=>position_c t ht (p j+1) hj H
 obtain ⟨hp,hm,hmp,hset,step,cl,len,lenm,small⟩:=s
 obtain ⟨n,lp,fs⟩:=t
 unfold Tr.cells at hm hpos
 simp only at hm hpos step
 refine zbg Tryz.E0 zaa Tryz.func89 (by kernel_rfl) rfl (Nat.le_of_ble_eq_true rfl) rfl fun hcl hbl=>?_
 refine loop_B Tryz.E0 zaa (σ:=Nat) (fun j=>j≤K) (fun j=>K-j) (fun _=>[]) Hs (fun _=>[]) _ 0 (fun j hj=>(len j hj).trans (len 0 (Nat.zero_le _)).symm) cl [0,1,2] rfl (Nat.zero_le _) trivial rfl rfl (fun _ _=>rfl) ?_
 intro j hj
 have h1:=hp j hj
 have hN:=(len 0 (Nat.zero_le _)).symm
 rcases Nat.lt_or_ge j K with hjK|hjK
 ·have h2:=hm j hjK
  have h3:=hmp j hjK
  have h4:=small j
  (repeat' ((conv=>whnf);(first|refine IfN.tt rfl ?_|(refine zaf _ _ Cst.h Cst.h ?_ ?_;· omega)|refine SetN.mk _ rfl ?_|refine CallN.det _ (hpos j (by omega) _) ?_|refine CallN.fix _ _ _ _ (hyt j hjK) ((lenm j hjK).trans hN) rfl ?_|refine PtrN.base _ (by (repeat' (first|assumption|exact za4 _ rfl|exact zam rfl|refine zar (B':=?_) ?_|refine zai ?_|fail))) ?_|fail)));conv=>whnf
  refine ⟨⟨j+1,hjK,by omega,trivial,.inl ⟨rfl,rfl⟩,?_,[],rfl,.inl rfl⟩⟩
  rw [← step j hjK]
  exact hset j hjK
 ·have:j=K:=by omega
  subst this
  (repeat' ((conv=>whnf);(first|refine IfN.ff rfl ?_|refine CallN.fix _ _ _ _ hyf (hlen.trans hN) rfl ?_|refine PtrN.base _ (by (repeat' (first|assumption|exact za4 _ rfl|exact zam rfl|refine zar (B':=?_) ?_|refine zai ?_|fail))) ?_|fail)));conv=>whnf
  exact .cut (hlen.trans hN) hlow ⟨_,_,.refl _,Wk.refl _,by simp [below,zac],rfl⟩
theorem iter_k (t:Tr) (ht:t.Ok) (K N:Nat) (p:Nat→Nat) (Hs Hm:Nat→Heap) (ip im i:Nat) (s:ItS t K N p Hs Hm ip im) (He Hx:Heap)
  (hlen:He.length=N)
  (hyt:∀ j,j<K→VYield Tryz.prog i [.int .i64 (p j)] (Hs j++[]) (fun r H'=>r=.bool true∧H'=Hm j++[]))
  (hyf:VYield Tryz.prog i [.int .i64 (p K)] (Hs K++[]) (fun r H'=>r=.bool false∧H'=He++Hx)) :
  VCall Tryz.prog 89 [.clo (.yield i) [] [],.ptr ip 0,.ptr im 0] (Hs 0) (fun _ H'=>H'=He++Hx):=by
 have hpos:=fun j (hj:p j+1<9223372036854775808) H=>position_c t ht (p j+1) hj H
 obtain ⟨hp,hm,hmp,hset,step,cl,len,lenm,small⟩:=s
 obtain ⟨n,lp,fs⟩:=t
 unfold Tr.cells at hm hpos
 simp only at hm hpos step
 refine zbg Tryz.E0 zaa Tryz.func89 (by kernel_rfl) rfl (Nat.le_of_ble_eq_true rfl) rfl fun hcl hbl=>?_
 refine loop_B Tryz.E0 zaa (σ:=Nat) (fun j=>j≤K) (fun j=>K-j) (fun _=>[]) Hs (fun _=>[]) _ 0 (fun j hj=>(len j hj).trans (len 0 (Nat.zero_le _)).symm) cl [0,1,2] rfl (Nat.zero_le _) trivial rfl rfl (fun _ _=>rfl) ?_
 intro j hj
 have h1:=hp j hj
 have hN:=(len 0 (Nat.zero_le _)).symm
 rcases Nat.lt_or_ge j K with hjK|hjK
 ·have h2:=hm j hjK
  have h3:=hmp j hjK
  have h4:=small j
  (repeat' ((conv=>whnf);(first|refine IfN.tt rfl ?_|(refine zaf _ _ Cst.h Cst.h ?_ ?_;· omega)|refine SetN.mk _ rfl ?_|refine CallN.det _ (hpos j (by omega) _) ?_|refine CallN.fix _ _ _ _ (hyt j hjK) ((lenm j hjK).trans hN) rfl ?_|refine PtrN.base _ (by (repeat' (first|assumption|exact za4 _ rfl|exact zam rfl|refine zar (B':=?_) ?_|refine zai ?_|fail))) ?_|fail)));conv=>whnf
  refine ⟨⟨j+1,hjK,by omega,trivial,.inl ⟨rfl,rfl⟩,?_,[],rfl,.inl rfl⟩⟩
  rw [← step j hjK]
  exact hset j hjK
 ·have:j=K:=by omega
  subst this
  (repeat' ((conv=>whnf);(first|refine IfN.ff rfl ?_|refine CallN.fix _ _ _ _ hyf (hlen.trans hN) rfl ?_|refine PtrN.base _ (by (repeat' (first|assumption|exact za4 _ rfl|exact zam rfl|refine zar (B':=?_) ?_|refine zai ?_|fail))) ?_|fail)));conv=>whnf
  exact .keep _ (Wk.refl _) rfl
abbrev rndWK (n0 k:Nat) (bk:RE) (N:Go.Vsi.FN) (ps:Array Tmp) (assign body:Code) (H:Heap) (x:Nat) (R:AV→Heap→Prop):Prop :=
 wpC Tryz.prog Tryz.kn Tryz.T ⟨N.n,some (n0+k)⟩ H.length assign (fun e top bot base k' loc=>match e with
   | .normal=>RndBK Tryz.prog Tryz.kn Tryz.T H (n0+k) (trE n0 bk) ⟨N.n,ps,assign,body⟩ R top bot base k' loc
   | _=>False) (parRE ps.toList [.int .i64 x] (reB n0 bk)) [] H 0 []
theorem range_k (t:Tr) (ht:t.Ok) {N:Go.Vsi.FN} {n0:Nat} {ps:Array Tmp} {assign body:Code} {Q:QR} {top bot:RE} {base:Heap} {k:Nat} {loc:Heap}
  (hbase:base.length=n0) (hcl:Closed base) (hN:N.r=none) (ts:List Nat) (bk:RE) (hbk:pickO ts top bot=some bk)
  (hps:∀ p∈ps.toList,p<N.n) (hps1:ps.size=1)
  (K:Nat) (p:Nat→Nat) (step:∀ j,j<K→p (j+1)=posN t.n t.lp (p j+1)) (small:∀ j,p j<5) (im ip:Nat)
  (ls lm:Nat→Heap) (le lx:Heap) (x:Nat) (jp:Code) (h0:loc=ls 0)
  (lens:∀ j,j≤K→(ls j).length=k) (lenm:∀ j,j<K→(lm j).length=k) (lene:le.length=k) (lenx:lx.length=x)
  (him:∀ j,j<K→lget (lm j) im=some (.box 27 t.cells)) (hip:∀ j,j<K→lget (lm j) ip=some (.box 3 [.int .i64 (p j)])) (his:∀ j,j≤K→lget (ls j) ip=some (.box 3 [.int .i64 (p j)]))
  (hset:∀ j,j<K→(lm j).set ip (.box 3 [.int .i64 (p (j+1))])=ls (j+1))
  (bls:∀ j,j≤K→∀ B∈ls j,B.below (n0+(k+1))) (bbk:zbe n0 (n0+(k+1)) bk)
  (hyt:∀ j,j<K→rndW n0 k bk N ps assign body (base++(ls j++[rdy n0 bk N ps assign body])) (p j) (fun r H'=>r=.bool true∧H'=base++(lm j++[rdy n0 bk N ps assign body])))
  (hyf:rndWK n0 k bk N ps assign body (base++(ls K++[rdy n0 bk N ps assign body])) (p K) (fun r H'=>r=.bool false∧H'=base++(le++([dne n0 bk N ps assign body (some jp)]++lx))))
  (hQ:jumpN Q top bot base (k+1+x) (le++([.dead]++lx)) (some jp)) :
  RangeN Tryz.prog N n0 89 [] [.ptr (n0+ip) 0,.ptr (n0+im) 0] ps assign body Q top bot base k loc:=by
 subst hbase h0
 have hloopb:∀ st jp,(Blk.loop st jp (trE base.length bk) ⟨N.n,ps,assign,body⟩).below (base.length+(k+1)):=fun _ _=>get_below bbk
 have hk0:(ls 0).length=k:=lens 0 (Nat.zero_le _)
 have hlen:∀ j B,j≤K→(base++(ls j++[B])).length=base.length+(k+1):=fun j B hj=>by simp [lens j hj]
 have hiK:∀ j,j≤K→(base++(ls j++[rdy base.length bk N ps assign body]))[base.length+k]? = some (rdy base.length bk N ps assign body):=fun j hj=>by
  rw [List.getElem?_append_right (by omega),Nat.add_sub_cancel_left,List.getElem?_append_right (by rw [lens j hj];exact Nat.le_refl _),lens j hj,Nat.sub_self]
  rfl
 have hyY:∀ j R,j≤K→rndW base.length k bk N ps assign body (base++(ls j++[rdy base.length bk N ps assign body])) (p j) R→VYield Tryz.prog (base.length+k) [.int .i64 (p j)] (base++(ls j++[rdy base.length bk N ps assign body])) R:=fun j R hj h =>
  round_R Tryz.E0 zaa (hiK j hj) hps (by simp [hps1]) h
 have hit:=iter_k t ht K (base.length+(k+1)) p (fun j=>base++(ls j++[rdy base.length bk N ps assign body])) (fun j=>base++(lm j++[rdy base.length bk N ps assign body])) (base.length+ip) (base.length+im) (base.length+k)
  {
   hp:=fun j hj=>zam (by rw [zaq] at *;rw [List.getElem?_append_left (List.getElem?_eq_some_iff.1 (zaq ..▸his j hj)).1];exact zaq ..▸his j hj),
   hm:=fun j hj=>zam (by rw [zaq];rw [List.getElem?_append_left (List.getElem?_eq_some_iff.1 (zaq ..▸him j hj)).1];exact zaq ..▸him j hj),
   hmp:=fun j hj=>zam (by rw [zaq];rw [List.getElem?_append_left (List.getElem?_eq_some_iff.1 (zaq ..▸hip j hj)).1];exact zaq ..▸hip j hj),
   hset:=fun j hj=>by
    rw [zbf,List.set_append_left _ _ (List.getElem?_eq_some_iff.1 (zaq ..▸hip j hj)).1,hset j hj],
   step:=step,
   cl:=fun j hj=>closed_loc hcl fun B hB=>by
    rw [hlen j _ hj]
    rcases List.mem_append.1 hB with h|h
    ·exact bls j hj B h
    ·simp only [List.mem_singleton] at h;subst h;exact hloopb _ _,
   len:=fun j hj=>hlen j _ hj,
   lenm:=fun j hj=>by simp [lenm j hj],
   small:=small }
  (base++(le++[dne base.length bk N ps assign body (some jp)])) lx (by simp [lene])
  (fun j hj=>by simp only [List.append_nil];exact hyY j _ (by omega) (hyt j hj))
  (by
   rw [List.append_nil]
   have:=round_K Tryz.E0 zaa (hiK K (Nat.le_refl _)) hps (by simp [hps1]) hyf
   simpa [List.append_assoc] using this)
 refine .mk ⟨(fun i hi=>by rw [hN] at hi;cases hi),ts,bk,(fun _ H'=>H'=base++(le++[dne base.length bk N ps assign body (some jp)])++lx),hbk,?_,?_⟩
 ·rw [List.append_assoc]
  exact hit
 ·rintro r H' rfl
  refine ⟨base,k+1+x,le++([dne base.length bk N ps assign body (some jp)]++lx),.done,some jp,le++([.dead]++lx),by simp [List.append_assoc],by simp [lene,lenx];omega,rfl,?_,by simp,?_,hQ⟩
  ·rw [zaq,List.getElem?_append_right (by omega),lene,Nat.sub_self];rfl
  ·rw [lset_some (by simp [lene])]
   rw [List.set_append_right _ _ (by omega),lene,Nat.sub_self]
   rfl
def tkF (old:List Nat) (p:ByteArray×Nat):ByteArray×Nat:=(p.1,tkK old p.2 old.length)
def takenT (t:Tr) (old:List Nat) (lp:Nat):Tr:=⟨old.length,lp,t.fs.map (tkF old)⟩
abbrev mdK (n lp:Int) (fs:AV):AV:=.agg [.int .u8 5,.int .i64 n,.nils,.int .i64 lp,fs,.nils,.nils]
theorem taken_k (t:Tr) (ht:t.Ok) (h0:0<t.fs.length) (old:List Nat) (lp:Nat) (h5:old.length≤5) (ho:∀ i,i<old.length→old.getD i 0<5) (H:Heap) :
  VCall Tryz.prog 46 [.agg t.cells,.sl none old.length (old.flatMap encN),.int .i64 lp] H fun r H'=>r=mdK old.length lp (.vs H.length t.fs.length)∧H'=H++[.vec 60 3 ((takenT t old lp).fs.flatMap encT)]:=by
 have hl:=ht.len
 have hs:=fun i hi=>ht.small i hi
 have hfl:((takenT t old lp).fs.flatMap encT).length=t.fs.length * 3:=by
  rw [zaz (f:=encT) (sz:=3) encT_size]
  simp [takenT]
 have e1:(takenT t old lp).fs.flatMap encT=(t.fs.map (tkF old)).flatMap encT:=rfl
 have hfb:zac H.length ((takenT t old lp).fs.flatMap encT):=encT_below _ _
 refine VCall.oneV (u:=mdK old.length lp (.vs (H.length+3) t.fs.length)) (u':=mdK old.length lp (.vs H.length t.fs.length)) (loc:=[.box 27 t.cells,.box 27 [.int .u8 5,.int .i64 old.length,.nils,.int .i64 lp,.vs (H.length+3) t.fs.length,.nils,.nils],.box 27 [.int .u8 5,.int .i64 old.length,.nils,.int .i64 lp,.vs (H.length+3) t.fs.length,.nils,.nils],.vec 60 3 ((takenT t old lp).fs.flatMap encT)]) (j:=3) (t:=60) (sz:=3) (l:=(takenT t old lp).fs.flatMap encT) ?_ (.agg (.cons (.low _ trivial) (.cons (.low _ trivial) (.cons (.low _ trivial) (.cons (.low _ trivial) (.cons (.vv rfl hfl) (.cons (.low _ trivial) (.cons (.low _ trivial) .nil)))))))) rfl (by rw [hfl];omega) (KpL.low hfb)
 rw [e1]
 obtain ⟨n,lp0,fs⟩:=t
 unfold Tr.cells
 simp only at hl hs h0 ⊢
 refine zbg Tryz.E0 zaa Tryz.func46 (by kernel_rfl) rfl (Nat.le_of_ble_eq_true rfl) rfl fun hcl hbl=>?_
 conv=>whnf
 refine LoopN.vecB 2 4 60 3 rfl rfl rfl rfl rfl rfl ?_
 refine za9 Tryz.E0 zaa (σ:=Nat×List AV) (fun k=>k.1≤fs.length∧k.2=((fs.take k.1).map (tkF old)).flatMap encT) (fun k=>fs.length-k.1) (fun k=>[(20,.v (.int .i64 k.1))]) (fun k=>[.box 27 [.int .u8 5,.int .i64 n,.sl none 0 [],.int .i64 lp0,.sl none fs.length (fs.flatMap encT),.sl none 0 [],.sl none 0 []],.box 27 [.int .u8 0,.int .i64 0,.nils,.int .i64 0,.nils,.nils,.nils],.box 27 [.int .u8 5,.int .i64 old.length,.nils,.int .i64 lp,.vs (H.length+3) k.1,.nils,.nils],.vec 60 3 k.2]) _ (0,[]) rfl hcl [1,6,7,18,19] rfl ⟨Nat.zero_le _,rfl⟩ ⟨⟨_,rfl,Wk.refl _⟩,trivial⟩ rfl (fun _ _=>rfl) ?_
 rintro ⟨k,cs⟩ ⟨hk,hcs⟩
 simp only at hk hcs ⊢
 clear hbl
 have hs':k<fs.length→(fs.getD k p0).2<32:=hs k
 rcases Nat.lt_or_ge k fs.length with hlt|hge
 ·obtain ⟨s,m,e2⟩:∃ s m,fs.getD k p0=(s,m):=⟨_,_,rfl⟩
  have qc:encT (fs.getD k p0)=[.str s,.int .i64 0,.int .i64 m]:=by rw [e2];rfl
  have h32:m<32:=by
   have:=hs' hlt
   rw [e2] at this
   exact this
  have hcl3:cs.length=k * 3:=by
   rw [hcs,zaz (sz:=3) (fun _=>rfl)]
   simp [Nat.min_eq_left hk]
  have hbc:∀ m,zac m cs:=fun m=>by rw [hcs];exact encT_below m _
  have hnew:((fs.take (k+1)).map (tkF old)).flatMap encT=cs++[.str s,.int .i64 0,.int .i64 (tkK old m old.length:Nat)]:=by
   rw [← map_take_succ (tkF old) fs p0 k hlt,List.flatMap_append,hcs,e2]
   rfl
  (repeat' ((conv=>whnf);(first|refine zan (by omega) ?_|(refine SideN.mk ?_ ?_;· first|omega|exact List.cons_ne_nil _ _|fail)|refine SegN.nthE p0 k rfl hlt encT_size qc ?_|fail)));conv=>whnf
  refine za9 Tryz.E0 zaa (σ:=Nat) (fun j=>j≤old.length) (fun j=>old.length-j) (fun j=>[(10,.v (.int .i64 (tkK old m j:Nat))),(26,.v (.int .i64 j))]) (fun _=>_) _ 0 rfl hcl [1,6,7,9,18,19,20,24,25] rfl (Nat.zero_le _) ⟨⟨_,rfl,Wk.refl _⟩,⟨_,rfl,Wk.refl _⟩,trivial⟩ rfl (fun _ _=>rfl) ?_
  intro j hj
  have ho':=ho j
  have hb:tkK old m j<32:=p2_32 (tkK_lt _ _ j) (by omega)
  rcases Nat.lt_or_ge j old.length with hjl|hjg
  ·(repeat' ((conv=>whnf);(first|refine zan (by omega) ?_|(refine EqN.id ?_;first|(refine EqN.and _ _ Cst.h Cst.h ?_ ?_;· (repeat' (first|omega|refine And.intro ?_ ?_|exact zad (by omega)|exact zap (by omega)|refine zbb ?_ ?_|refine zao ?_ ?_|refine zau ?_ ?_|refine zal ?_ ?_|refine zav ?_|refine zaw ?_ ?_|refine zax ?_|refine zad ?_|fail)))|(refine EqN.or _ _ Cst.h Cst.h ?_ ?_;· (repeat' (first|omega|refine And.intro ?_ ?_|exact zad (by omega)|exact zap (by omega)|refine zbb ?_ ?_|refine zao ?_ ?_|refine zau ?_ ?_|refine zal ?_ ?_|refine zav ?_|refine zaw ?_ ?_|refine zax ?_|refine zad ?_|fail)))|(refine EqN.shrN _ _ Cst.h Cst.h rfl ?_ ?_;· (repeat' (first|omega|refine And.intro ?_ ?_|exact zad (by omega)|exact zap (by omega)|refine zbb ?_ ?_|refine zao ?_ ?_|refine zau ?_ ?_|refine zal ?_ ?_|refine zav ?_|refine zaw ?_ ?_|refine zax ?_|refine zad ?_|fail)))|(refine EqN.shlN _ _ Cst.h Cst.h rfl ?_ ?_ ?_;(· (repeat' (first|omega|refine And.intro ?_ ?_|exact zad (by omega)|exact zap (by omega)|refine zbb ?_ ?_|refine zao ?_ ?_|refine zau ?_ ?_|refine zal ?_ ?_|refine zav ?_|refine zaw ?_ ?_|refine zax ?_|refine zad ?_|fail)));(· (repeat' (first|omega|refine And.intro ?_ ?_|exact zad (by omega)|exact zap (by omega)|refine zbb ?_ ?_|refine zao ?_ ?_|refine zau ?_ ?_|refine zal ?_ ?_|refine zav ?_|refine zaw ?_ ?_|refine zax ?_|refine zad ?_|fail))))|(refine zaf _ _ Cst.h Cst.h ?_ ?_;· omega)|fail)|(refine SideN.mk ?_ ?_;· first|omega|exact List.cons_ne_nil _ _|fail)|refine zbm 0 j rfl (by omega) (fun _=>rfl) ?_|fail)));conv=>whnf
   (refine ⟨⟨j+1,by omega,by omega,?_,.inl ⟨rfl,rfl⟩,rfl,_,rfl,?_⟩⟩;rotate_left 1;exact .inl rfl;exact ⟨⟨_,rfl,Wk.refl _⟩,⟨_,rfl,Wk.refl _⟩,trivial⟩)
  ·obtain rfl:j=old.length:=by omega
   (repeat' ((conv=>whnf);(first|refine zas (by omega) ?_|(refine zaf _ _ Cst.h Cst.h ?_ ?_;· omega)|refine SideN.mk ⟨hcl3,rfl,rfl,by dsimp only;omega,by simp only [maxLen];omega⟩ ?_|refine PtrN.loc _ rfl ?_|fail)));conv=>whnf
   (refine ⟨⟨(k+1,cs++[.str s,.int .i64 0,.int .i64 (tkK old m old.length:Nat)]),⟨by simp only;omega,hnew.symm⟩,by omega,?_,.inr ?_,rfl,_,rfl,?_⟩⟩;rotate_left 2;exact .inr ⟨by simp [zbe,below,zac,tr,encT_below,zbk,hbc,za5],by simp [belowH,Blk.below,zac,below,encT_below,zbk,hbc,za5]⟩;all_goals (repeat' (first|exact trivial|refine ⟨⟨_,rfl,?_⟩,?_⟩|fail));all_goals exact Wk.refl _)
 ·obtain rfl:k=fs.length:=by omega
  rw [List.take_length] at hcs
  subst hcs
  (repeat' ((conv=>whnf);(first|refine zas (by omega) ?_|fail)));conv=>whnf
  exact EndN.keep _ (Wk.refl _) ⟨rfl,rfl⟩
theorem valid_t {t:Tr} (h:t.Ok) (H:Heap):VDet Tryz.prog 43 [.agg t.cells] H (.bool true):=by
 have hn:t.mdl.Nm:=⟨fun f hf=>by
  obtain ⟨p,hp,rfl⟩:=List.mem_map.1 hf
  exact h.sz p hp,fun f hf=>(nomatch hf),fun f hf=>(nomatch hf)⟩
 have:=valid_c t.mdl (by show (List.map _ t.fs).length≤_;rw [List.length_map];exact Nat.le_trans h.len (by decide)) hn H
 rwa [h.valid,Tr.mdl_cells] at this
theorem refValid_t {t:Tr} (h:t.Ok) (H:Heap):VDet Tryz.prog 57 [.agg t.cells] H (.bool true):=by
 have hn:t.mdl.Nm:=⟨fun f hf=>by
  obtain ⟨p,hp,rfl⟩:=List.mem_map.1 hf
  exact h.sz p hp,fun f hf=>(nomatch hf),fun f hf=>(nomatch hf)⟩
 have:=refValid_c t.mdl (by show (List.map _ t.fs).length≤_;rw [List.length_map];exact h.len) hn H
 rwa [h.valid,Tr.mdl_cells] at this
theorem taken_ok {t:Tr} (ht:t.Ok) (old:List Nat) (lp:Nat) (h1:1≤old.length) (h5:old.length≤5) (hl:lp<old.length):(takenT t old lp).Ok:=by
 have hg:∀ i,i<t.fs.length→ft (t.fs.map (tkF old)) i=tkF old (ft t.fs i):=fun i hi=>by
  unfold ft
  simp [hi]
 refine ⟨h1,h5,hl,by simpa [takenT] using ht.len,?_,?_,fun i hi=>?_⟩
 ·have e:(takenT t old lp).fs.map (·.1)=t.fs.map (·.1):=by simp [takenT,tkF,List.map_map,Function.comp_def]
  rw [e]
  exact ht.nms
 ·intro f hf
  obtain ⟨p,hp,rfl⟩:=List.mem_map.1 hf
  exact ht.sz p hp
 ·have hi':i<t.fs.length:=by simpa [takenT] using hi
  simp only [takenT]
  rw [hg i hi']
  exact tkK_lt _ _ _
def shT (t:Tr) (j x:Nat):Tr:=takenT t (olds t.n t.lp 0 (j+1)) x
def shB (t:Tr) (j x:Nat):Bool:=sameB 25 (shT t j x) t
theorem growN {P:Program} {F:FuncId} {xs:List AV} {n0:Nat} {base:Heap} {k:Nat} {K:AV→Heap→Nat→Heap→Prop} (v:Nat→AV) (V:Blk) (h:∀ N,base.length=N→VCall P F xs (base++[]) fun r H'=>r=v N∧H'=(base++[])++[V]) (hn:base.length=n0) (a:K (v n0) base 1 [V]):CallN P (.func F) xs n0 base k [] K :=
 CallN.grow (v n0) [V] [V] 1 (h n0 hn) hn rfl rfl a
theorem at_locN {base loc:Heap} {N j:Nat} {B:Blk} (hn:base.length=N) (h:lget loc j=some B):(base++loc)[N+j]? = some B:=hn▸zam h
theorem Short_k (t:Tr) (ht:t.Ok) (h0:0<t.fs.length) (K L:Nat) (hK:K<t.n) (hL:L≤K) (hno:∀ j,j<K→∀ x,x≤j→shB t j x=false) (hno2:∀ x,x<L→shB t K x=false) (hyes:shB t K L=true) (H:Heap) :
  VCall Tryz.prog 11 [.agg t.cells] H fun r H'=>r=.tup [mdK (K+1:Nat) L (.vs H.length t.fs.length),.int .i64 0]∧H'=H++[.vec 60 3 ((shT t K L).fs.flatMap encT)]:=by
 have hv:=fun H=>valid_t ht H
 have h5:=ht.n5
 have hq0:0<t.n:=by have:=ht.n1;omega
 have hsm:∀ j,pth t.n t.lp 0 j<5:=fun j=>Nat.lt_of_lt_of_le (pth_lt ht.lp hq0 j) ht.n5
 have hln:∀ j x,((shT t j x).fs.flatMap encT).length=t.fs.length * 3:=fun j x=>by
  rw [zaz (f:=encT) (sz:=3) encT_size]
  simp [shT,takenT]
 have htk:∀ (j x:Nat) (B:Heap) (N:Nat),B.length=N→j≤4→VCall Tryz.prog 46 [.agg t.cells,.sl none (j+1) (cel t.n t.lp 0 (j+1)),.int .i64 x] (B++[]) fun r H'=>r=mdK (j+1:Nat) x (.vs (N+0) t.fs.length)∧H'=(B++[])++[.vec 60 3 ((shT t j x).fs.flatMap encT)]:=fun j x B N hN hj=>by
  subst hN
  have:=taken_k t ht h0 (olds t.n t.lp 0 (j+1)) x (by rw [zbd];omega) (fun i hi=>by
   rw [zbd] at hi
   rw [olds_get _ _ _ hi]
   exact hsm i) (B++[])
  rw [zbd,List.length_append] at this
  exact this
 have hsa:∀ (j x:Nat) (B:Heap) (i:Nat),j≤4→x≤j→B[i]? = some (.vec 60 3 ((shT t j x).fs.flatMap encT))→VDet Tryz.prog 44 [mdK (j+1:Nat) x (.vs i t.fs.length),.agg t.cells] B (.bool (shB t j x)):=fun j x B i hj hx hi =>
  VDet.lendA (.cons (.agg (.cons (.refl _) (.cons (.refl _) (.cons (.refl _) (.cons (.refl _) (.cons (.vs hi (hln j x) (LendL.refl _)) (.cons (.refl _) (.cons (.refl _) .nil)))))))) (.cons (.refl _) .nil))
   (fun H=>same_c _ _ (taken_ok ht (olds t.n t.lp 0 (j+1)) x (by rw [zbd];omega) (by rw [zbd];omega) (by rw [zbd];omega)) ht H)
   ⟨zbp ⟨Wk.refl _,Wk.of_eq (by simp [takenT,zbd]),zak,Wk.refl _,Wk.of_eq (by simp [takenT,shT]),zak,zak,trivial⟩,Wk.refl _,trivial⟩ rfl
 have hst5:VCall Tryz.prog 45 [.agg t.cells,.int .i64 (0:Nat)] (H++[.box 27 t.cells,.box 27 [.int .u8 0,.int .i64 0,.nils,.int .i64 0,.nils,.nils,.nils],.box 33 [.int .i64 0],.box 22 [.nils]]) (fun r H'=>r=.clo (.func 89) [] [.ptr (H.length+5) 0,.ptr (H.length+4) 0]∧H'=(H++[.box 27 t.cells,.box 27 [.int .u8 0,.int .i64 0,.nils,.int .i64 0,.nils,.nils,.nils],.box 33 [.int .i64 0],.box 22 [.nils]])++[.box 27 t.cells,.box 3 [.int .i64 (0:Nat)]]):=by
  have:=steps_c t 0 (H++[.box 27 t.cells,.box 27 [.int .u8 0,.int .i64 0,.nils,.int .i64 0,.nils,.nils,.nils],.box 33 [.int .i64 0],.box 22 [.nils]])
  rw [List.length_append] at this
  exact this
 have hfb:∀ m j x,zac m ((shT t j x).fs.flatMap encT):=fun m j x=>encT_below m _
 refine VCall.oneV (u:=.tup [mdK (K+1:Nat) L (.vs (H.length+8) t.fs.length),.int .i64 0]) (u':=.tup [mdK (K+1:Nat) L (.vs H.length t.fs.length),.int .i64 0])
  (loc:=blk7 t.cells [.int .u8 5,.int .i64 (K+1:Nat),.nils,.int .i64 L,.vs (H.length+8) t.fs.length,.nils,.nils] H.length (cel t.n t.lp 0 (K+1)) (K+1) (pth t.n t.lp 0 K)++([.dead]++[.vec 60 3 ((shT t K L).fs.flatMap encT),.box 27 [.int .u8 5,.int .i64 (K+1:Nat),.nils,.int .i64 L,.vs (H.length+8) t.fs.length,.nils,.nils]])) (j:=8) (t:=60) (sz:=3) (l:=(shT t K L).fs.flatMap encT) ?_
  (.tup (.cons (.agg (.cons (.low _ trivial) (.cons (.low _ trivial) (.cons (.low _ trivial) (.cons (.low _ trivial) (.cons (.vv rfl (hln _ _)) (.cons (.low _ trivial) (.cons (.low _ trivial) .nil)))))))) (.cons (.low _ trivial) .nil))) rfl (by rw [hln];omega) (KpL.low (hfb _ _ _))
 generalize hfc:(fun j x=>(shT t j x).fs.flatMap encT)=Fc at *
 have hfc':∀ j x,(shT t j x).fs.flatMap encT=Fc j x:=fun j x=>congrFun (congrFun hfc j) x
 simp only [hfc'] at htk hsa hln hfb ⊢
 generalize hcs:t.cells=tc at hv hst5 htk hsa ⊢
 have hbt:∀ m,zac m tc:=fun m=>by rw [← hcs];simp [Tr.cells,below,zac,encT_below]
 have hl7:tc=[.int .u8 5,.int .i64 t.n,.sl none 0 [],.int .i64 t.lp,.sl none t.fs.length (t.fs.flatMap encT),.sl none 0 [],.sl none 0 []]:=hcs.symm
 generalize shB t=B at hno hno2 hyes hsa
 subst hl7
 refine zbg Tryz.E0 zaa Tryz.func11 (by kernel_rfl) rfl (Nat.le_of_ble_eq_true rfl) rfl fun hcl hbl=>?_
 (repeat' ((conv=>whnf);(first|(refine IfN.id ?_;first|refine IfN.not ?_|refine IfN.tt rfl ?_|fail)|refine CallN.det _ (hv _) ?_|refine CallN.grow _ _ _ 6 hst5 rfl rfl rfl ?_|fail)));conv=>whnf
 refine RangeN.tokB 3 0 3 1 rfl rfl rfl rfl rfl ?_
 refine range_k t ht rfl hcl rfl [1,2,3,4] _ rfl (by simp) rfl K (pth t.n t.lp 0) (fun _ _=>rfl) hsm 4 5
  (fun j=>blk7 [.int .u8 5,.int .i64 t.n,.sl none 0 [],.int .i64 t.lp,.sl none t.fs.length (t.fs.flatMap encT),.sl none 0 [],.sl none 0 []] zm H.length (cel t.n t.lp 0 j) j (pth t.n t.lp 0 j)) (fun j=>blk7 [.int .u8 5,.int .i64 t.n,.sl none 0 [],.int .i64 t.lp,.sl none t.fs.length (t.fs.flatMap encT),.sl none 0 [],.sl none 0 []] zm H.length (cel t.n t.lp 0 (j+1)) (j+1) (pth t.n t.lp 0 j)) (blk7 [.int .u8 5,.int .i64 t.n,.sl none 0 [],.int .i64 t.lp,.sl none t.fs.length (t.fs.flatMap encT),.sl none 0 [],.sl none 0 []] [.int .u8 5,.int .i64 (K+1:Nat),.nils,.int .i64 L,.vs (H.length+8) t.fs.length,.nils,.nils] H.length (cel t.n t.lp 0 (K+1)) (K+1) (pth t.n t.lp 0 K)) [.vec 60 3 (Fc K L),.box 27 [.int .u8 5,.int .i64 (K+1:Nat),.nils,.int .i64 L,.vs (H.length+8) t.fs.length,.nils,.nils]] 2 .ret rfl
  (fun _ _=>rfl) (fun _ _=>rfl) rfl rfl (fun _ _=>rfl) (fun _ _=>rfl) (fun _ _=>rfl) (fun _ _=>rfl)
  (fun _ _=>blk7_below hbt (fun m=>by simp [zm,zac,below]) (cel_below _ _ _ _)) (by simp [zbe,below,tr]) ?_ ?_ ?_
 ·intro j hj
  conv=>whnf
  refine ⟨none,_,zam rfl,zbf,?_⟩
  (repeat' ((conv=>whnf);(first|refine SetN.mk _ zbf ?_|refine SideN.mk ⟨rfl,rfl,rfl,by dsimp only;omega,by simp only [maxLen];omega⟩ ?_|refine PtrN.base _ (by (repeat' (first|assumption|exact za4 _ rfl|exact zam rfl|refine zar (B':=?_) ?_|refine zai ?_|fail))) ?_|fail)));conv=>whnf
  refine LoopN.base_eq (H++(blk7 [.int .u8 5,.int .i64 t.n,.sl none 0 [],.int .i64 t.lp,.sl none t.fs.length (t.fs.flatMap encT),.sl none 0 [],.sl none 0 []] zm H.length (cel t.n t.lp 0 (j+1)) (j+1) (pth t.n t.lp 0 j)++[_])) (by rw [← cel_succ];rfl) ?_
  refine za9 Tryz.E0 zaa (σ:=Nat) (fun x=>x≤j+1) (fun x=>j+1-x) (fun x=>[(21,.v (.int .i64 x))]) (fun _=>[]) _ 0 (by simp [blk7]) (closed_loc hcl fun C hC=>?_) [1,2,3,4,20] rfl (Nat.zero_le _) ⟨⟨_,rfl,Wk.refl _⟩,trivial⟩ rfl (fun _ _=>rfl) ?_
  ·rcases List.mem_append.1 hC with h|h
   ·exact Blk.below_mono (Nat.le_of_eq (by simp [blk7])) (blk7_below hbt (fun m=>by simp [zm,zac,below]) (cel_below _ _ _ _) C h)
   ·simp only [List.mem_singleton] at h
    subst h
    exact get_below (by simp [zbe,below,tr,blk7])
  ·intro x hx
   have hB:x≤j→B j x=false:=hno j hj x
   have h1:=fun Z N hN=>htk j x Z N hN (by omega)
   have h2:∀ (Z:Heap) (i:Nat),x≤j→Z[i]? = _→VDet Tryz.prog 44 _ Z (.bool (B j x)):=fun Z i h=>hsa j x Z i (by omega) h
   (repeat' ((conv=>whnf);(first|(refine IfN.id ?_;first|refine IfN.ff (hB (by omega)) ?_|refine zas (by omega) ?_|refine za3 (fun _=>?_) (fun _=>?_)|fail)|(refine zaf _ _ Cst.h Cst.h ?_ ?_;· omega)|refine CallN.det _ (h2 _ _ (by omega) (at_locN (by simp [blk7]) rfl)) ?_|refine growN (fun N=>mdK (j+1:Nat) x (.vs (N+0) t.fs.length)) _ (fun N hN=>VCall.wkA (h1 _ N hN) (by (repeat' (first|exact trivial|refine And.intro ?_ ?_|exact Wk.refl _|exact wk_sl _ _ _|fail));done)) (by simp [blk7]) ?_|refine PtrN.base _ (by (repeat' (first|assumption|exact za4 _ rfl|exact zam rfl|refine zar (B':=?_) ?_|refine zai ?_|fail))) ?_|fail)));all_goals (conv=>whnf)
   ·(refine ⟨⟨x+1,by omega,by omega,?_,.inl ⟨rfl,rfl⟩,rfl,_,rfl,?_⟩⟩;rotate_left 1;exact .inr ⟨by simp [zbe,below,zac,tr,encT_below,zbk],by simp [belowH,Blk.below,zac,below,encT_below,zbk]⟩;exact ⟨⟨_,rfl,Wk.refl _⟩,trivial⟩)
   ·refine ⟨none,none,true,.ready,_,.normal,zam rfl,?_,?_,low_loc (fun C hC=>?_),rfl,rfl⟩
    ·rw [zbf]
     rfl
    ·simp [blk7]
    ·rcases List.mem_append.1 hC with h|h
     ·exact Blk.below_mono (Nat.le_of_eq (by simp [blk7])) (blk7_below hbt (fun m=>by simp [zm,zac,below]) (cel_below _ _ _ _) C h)
     ·simp only [List.mem_singleton] at h
      subst h
      exact get_below (by simp [zbe,below,tr,blk7])
 ·conv=>whnf
  refine ⟨none,_,zam rfl,zbf,?_⟩
  (repeat' ((conv=>whnf);(first|refine SetN.mk _ zbf ?_|refine SideN.mk ⟨rfl,rfl,rfl,by dsimp only;omega,by simp only [maxLen];omega⟩ ?_|refine PtrN.base _ (by (repeat' (first|assumption|exact za4 _ rfl|exact zam rfl|refine zar (B':=?_) ?_|refine zai ?_|fail))) ?_|fail)));conv=>whnf
  refine LoopN.base_eq (H++(blk7 [.int .u8 5,.int .i64 t.n,.sl none 0 [],.int .i64 t.lp,.sl none t.fs.length (t.fs.flatMap encT),.sl none 0 [],.sl none 0 []] zm H.length (cel t.n t.lp 0 (K+1)) (K+1) (pth t.n t.lp 0 K)++[_])) (by rw [← cel_succ];rfl) ?_
  refine za9 Tryz.E0 zaa (σ:=Nat) (fun x=>x≤L) (fun x=>L-x) (fun x=>[(21,.v (.int .i64 x))]) (fun _=>[]) _ 0 (by simp [blk7]) (closed_loc hcl fun C hC=>?_) [1,2,3,4,20] rfl (Nat.zero_le _) ⟨⟨_,rfl,Wk.refl _⟩,trivial⟩ rfl (fun _ _=>rfl) ?_
  ·rcases List.mem_append.1 hC with h|h
   ·exact Blk.below_mono (Nat.le_of_eq (by simp [blk7])) (blk7_below hbt (fun m=>by simp [zm,zac,below]) (cel_below _ _ _ _) C h)
   ·simp only [List.mem_singleton] at h
    subst h
    exact get_below (by simp [zbe,below,tr,blk7])
  ·intro x hx
   have h1:=fun Z N hN=>htk K x Z N hN (by omega)
   have h2:∀ (Z:Heap) (i:Nat),x≤K→Z[i]? = _→VDet Tryz.prog 44 _ Z (.bool (B K x)):=fun Z i h=>hsa K x Z i (by omega) h
   rcases Nat.lt_or_ge x L with hxL|hxL
   ·have hB:B K x=false:=hno2 x hxL
    (repeat' ((conv=>whnf);(first|(refine IfN.id ?_;first|refine IfN.ff hB ?_|refine zan (by omega) ?_|fail)|(refine zaf _ _ Cst.h Cst.h ?_ ?_;· omega)|refine CallN.det _ (h2 _ _ (by omega) (at_locN (by simp [blk7]) rfl)) ?_|refine growN (fun N=>mdK (K+1:Nat) x (.vs (N+0) t.fs.length)) _ (fun N hN=>VCall.wkA (h1 _ N hN) (by (repeat' (first|exact trivial|refine And.intro ?_ ?_|exact Wk.refl _|exact wk_sl _ _ _|fail));done)) (by simp [blk7]) ?_|refine PtrN.base _ (by (repeat' (first|assumption|exact za4 _ rfl|exact zam rfl|refine zar (B':=?_) ?_|refine zai ?_|fail))) ?_|fail)));conv=>whnf
    (refine ⟨⟨x+1,by omega,by omega,?_,.inl ⟨rfl,rfl⟩,rfl,_,rfl,?_⟩⟩;rotate_left 1;exact .inr ⟨by simp [zbe,below,zac,tr,encT_below,zbk],by simp [belowH,Blk.below,zac,below,encT_below,zbk]⟩;exact ⟨⟨_,rfl,Wk.refl _⟩,trivial⟩)
   ·have hxe:x=L:=by omega
    subst hxe
    (repeat' ((conv=>whnf);(first|refine SetN.mk _ zbf ?_|(refine IfN.id ?_;first|refine IfN.tt hyes ?_|refine zan (by omega) ?_|fail)|refine CallN.det _ (h2 _ _ (by omega) (at_locN (by simp [blk7]) rfl)) ?_|refine growN (fun N=>mdK (K+1:Nat) x (.vs (N+0) t.fs.length)) _ (fun N hN=>VCall.wkA (h1 _ N hN) (by (repeat' (first|exact trivial|refine And.intro ?_ ?_|exact Wk.refl _|exact wk_sl _ _ _|fail));done)) (by simp [blk7]) ?_|refine PtrN.base _ (by (repeat' (first|assumption|exact za4 _ rfl|exact zam rfl|refine zar (B':=?_) ?_|refine zai ?_|fail))) ?_|fail)));conv=>whnf
    refine ⟨none,some .ret,false,.done,_,.ret,zam rfl,rfl,rfl,?_⟩
    rw [zbf,List.append_assoc]
    have hN:∀ Y:Heap,(H++Y).length=H.length+Y.length:=fun Y=>List.length_append
    simp only [hN]
    rfl
 ·conv=>whnf
  exact EndN.keep _ (Wk.refl _) ⟨rfl,rfl⟩
end
section
theorem pth_id (n lp:Nat):∀ s,s<n→pth n lp 0 s=s
 | 0,_=>rfl
 | s+1,h=>by
   show posN n lp (pth n lp 0 s+1)=s+1
   rw [pth_id n lp s (by omega)]
   exact if_pos h
theorem tk_one {old:List Nat} {m s:Nat} (h:(m >>> old.getD s 0) % 2=1):tkK old m (s+1)=tkK old m s+1 <<< s:=by
 show tkK old m s ||| ((m >>> old.getD s 0) &&& 1) <<< s=_
 rw [Nat.and_one_is_mod,h,Nat.or_comm,Nat.add_comm]
 exact (Nat.shiftLeft_add_eq_or_of_lt (tkK_lt old m s) 1).symm
theorem tk_zero {old:List Nat} {m s:Nat} (h:(m >>> old.getD s 0) % 2≠1):tkK old m (s+1)=tkK old m s:=by
 show tkK old m s ||| ((m >>> old.getD s 0) &&& 1) <<< s=_
 rw [Nat.and_one_is_mod,show (m >>> old.getD s 0) % 2=0 by omega,Nat.zero_shiftLeft,Nat.or_zero]
attribute [local irreducible] VW VCall VO bits
theorem refShort_c (t:Tr) (ht:t.Ok) (K L:Nat) (hK:K<t.n) (hL:L≤K) (hno:∀ j,j<K→∀ x,x≤j→shB t j x=false) (hno2:∀ x,x<L→shB t K x=false) (hyes:shB t K L=true) (H:Heap) :
  VDet Tryz.prog 20 [.agg t.cells] H (.tup [mdK (K+1:Nat) L (.sl none t.fs.length ((shT t K L).fs.flatMap encT)),.int .i64 0]):=by
 have hv:=fun H=>refValid_t ht H
 have h5:=ht.n5
 have hlen:=ht.len
 have hln:∀ j x,(shT t j x).fs.length=t.fs.length:=fun j x=>by simp [shT,takenT]
 have hsa:∀ (j x tk:Nat) H,j<t.n→x≤j→VDet Tryz.prog 58 [mdK (j+1:Nat) x (.sl (some tk) t.fs.length ((shT t j x).fs.flatMap encT)),.agg t.cells] H (.bool (shB t j x)):=fun j x tk H hj hx=>by
  have h1:=taken_ok ht (olds t.n t.lp 0 (j+1)) x (by rw [zbd];omega) (by rw [zbd];omega) (by rw [zbd];omega)
  have h2:=refSame_c _ _ h1 ht H
  rw [same_30 h1 ht] at h2
  exact zbc h2 ⟨zbp ⟨Wk.refl _,Wk.of_eq (by simp [takenT,zbd]),zak,Wk.refl _,Wk.trans (wk_sl _ _ _) (Wk.of_eq (by simp [takenT,shT])),zak,zak,trivial⟩,Wk.refl _,trivial⟩
 have hpo:∀ s:Nat,s<t.n→∀ H,VDet Tryz.prog 59 [.agg t.cells,.int .i64 (s:Nat)] H (.int .i64 (s:Nat)):=fun s hs H=>by
  have:=refPosition_c t ht s (by omega) H
  rwa [show posN t.n t.lp s=s from if_pos hs] at this
 have hog:∀ j s,s≤j→j<t.n→(olds t.n t.lp 0 (j+1)).getD s 0=s:=fun j s hs hj=>by
  rw [olds_get _ _ _ (by omega),pth_id _ _ _ (by omega)]
 have hfs:∀ j x,(shT t j x).fs=t.fs.map (tkF (olds t.n t.lp 0 (j+1))):=fun _ _=>rfl
 have hol:∀ j,(olds t.n t.lp 0 (j+1)).length=j+1:=fun j=>zbd _ _ _ _
 have hsm:=fun i hi=>ht.small i hi
 generalize hB:shB t=B at *
 simp only [hfs] at hsa ⊢
 generalize hO:(fun j=>olds t.n t.lp 0 (j+1))=O at *
 have hO':∀ j,olds t.n t.lp 0 (j+1)=O j:=fun j=>congrFun hO j
 simp only [hO'] at hsa hog hol hfs ⊢
 clear hfs hO' hO hB hln
 obtain ⟨n,lp,fs⟩:=t
 unfold Tr.cells at hv hsa hpo ⊢
 simp only at hv hsa hpo h5 hlen hog hsm hK ⊢
 refine zag Tryz.E0 zaa Tryz.func20 (by kernel_rfl) rfl (Nat.le_of_ble_eq_true rfl) rfl fun hcl hbl=>?_
 (repeat' ((conv=>whnf);(first|(refine IfN.id ?_;first|refine IfN.not ?_|refine IfN.tt rfl ?_|fail)|refine CallN.det _ (hv _) ?_|fail)));conv=>whnf
 refine za9 Tryz.E0 zaa (σ:=Nat) (fun j=>j≤K) (fun j=>K-j) (fun j=>[(4,.v (.int .i64 (j+1:Nat)))]) (fun _=>_) _ 0 rfl hcl [1,2] rfl (Nat.zero_le _) ⟨⟨_,rfl,Wk.refl _⟩,trivial⟩ rfl (fun _ _=>rfl) ?_
 intro j hj
 clear hbl
 conv=>whnf
 refine za9 Tryz.E0 zaa (σ:=Nat) (fun x=>x≤j+1∧(j=K→x≤L)) (fun x=>j+1-x) (fun x=>[(5,.v (.int .i64 x))]) (fun _=>_) _ 0 rfl hcl [1,2,4] rfl ⟨Nat.zero_le _,fun _=>Nat.zero_le _⟩ ⟨⟨_,rfl,Wk.refl _⟩,trivial⟩ rfl (fun _ _=>rfl) ?_
 rintro x ⟨hx,hxL⟩
 rcases Nat.lt_or_ge x (j+1) with hlt|hge
 ·(repeat' ((conv=>whnf);(first|refine zan (by omega) ?_|fail)));conv=>whnf
  refine LoopN.tokB 2 4 60 3 rfl rfl rfl rfl rfl rfl ?_
  refine za9 Tryz.E0 zaa (σ:=Nat×List AV) (fun k=>k.1≤fs.length∧k.2=((fs.take k.1).map (tkF (O j))).flatMap encT) (fun k=>fs.length-k.1) (fun k=>[(7,.v (.int .i64 k.1))]) (fun k=>[.box 27 [.int .u8 5,.int .i64 n,.sl none 0 [],.int .i64 lp,.sl none fs.length (fs.flatMap encT),.sl none 0 [],.sl none 0 []],.box 27 [.int .u8 0,.int .i64 0,.nils,.int .i64 0,.nils,.nils,.nils],.box 27 [.int .u8 5,.int .i64 (j+1:Nat),.nils,.int .i64 x,.sl (some (H.length+3)) k.1 k.2,.nils,.nils],.tok 60 3 k.2.length]) _ (0,[]) rfl hcl [1,2,4,5,6] rfl ⟨Nat.zero_le _,rfl⟩ ⟨⟨_,rfl,Wk.refl _⟩,trivial⟩ rfl (fun _ _=>rfl) ?_
  rintro ⟨k,cs⟩ ⟨hk,hcs⟩
  simp only at hk hcs ⊢
  have hbc:∀ m,zac m cs:=fun m=>by rw [hcs];exact encT_below m _
  rcases Nat.lt_or_ge k fs.length with hkl|hkg
  ·obtain ⟨s,m,e2⟩:∃ s m,fs.getD k p0=(s,m):=⟨_,_,rfl⟩
   have qc:encT (fs.getD k p0)=[.str s,.int .i64 0,.int .i64 m]:=by rw [e2];rfl
   have h32:m<32:=by
    have:=hsm k hkl
    unfold ft at this
    rw [e2] at this
    exact this
   have hcl3:cs.length=k * 3:=by
    rw [hcs,zaz (sz:=3) (fun _=>rfl)]
    simp [Nat.min_eq_left hk]
   have hnew:((fs.take (k+1)).map (tkF (O j))).flatMap encT=cs++[.str s,.int .i64 0,.int .i64 (tkK (O j) m (j+1):Nat)]:=by
    rw [← map_take_succ (tkF (O j)) fs p0 k hkl,List.flatMap_append,hcs,e2]
    unfold tkF
    rw [hol]
    rfl
   (repeat' ((conv=>whnf);(first|refine zan (by omega) ?_|(refine SideN.mk ?_ ?_;· first|omega|exact List.cons_ne_nil _ _|fail)|refine SegN.nthE p0 k rfl hkl encT_size qc ?_|fail)));conv=>whnf
   refine za9 Tryz.E0 zaa (σ:=Nat) (fun s=>s≤j+1) (fun s=>j+1-s) (fun s=>[(9,.v (.int .i64 s))]) (fun y=>[.box 27 [.int .u8 5,.int .i64 n,.sl none 0 [],.int .i64 lp,.sl none fs.length (fs.flatMap encT),.sl none 0 [],.sl none 0 []],.box 27 [.int .u8 0,.int .i64 0,.nils,.int .i64 0,.nils,.nils,.nils],.box 27 [.int .u8 5,.int .i64 (j+1:Nat),.nils,.int .i64 x,.sl (some (H.length+3)) k cs,.nils,.nils],.tok 60 3 cs.length,.box 60 [.str s,.int .i64 0,.int .i64 (tkK (O j) m y:Nat)]]) _ 0 rfl hcl [1,2,4,5,6,7,8] rfl (Nat.zero_le _) ⟨⟨_,rfl,Wk.refl _⟩,trivial⟩ rfl (fun _ _=>rfl) ?_
   intro y hy
   have hb:tkK (O j) m y<2 ^ y:=tkK_lt _ _ y
   have hb2:2 ^ y≤32:=Nat.le_trans (Nat.pow_le_pow_right (n:=2) (by decide) (show y≤5 by omega)) (by decide)
   rcases Nat.lt_or_ge y (j+1) with hyl|hyg
   ·have hp:=hpo y (by omega)
    have hg:=hog j y (by omega) (by omega)
    have h1:=fun h=>@tk_one (O j) m y h
    have h2:=fun h=>@tk_zero (O j) m y h
    rw [hg] at h1 h2
    have hsl:1 <<< y=2 ^ y:=Nat.one_shiftLeft y
    generalize hT:tkK (O j) m y=T at *
    generalize hT2:tkK (O j) m (y+1)=T2 at *
    (repeat' ((conv=>whnf);(first|(refine IfN.id ?_;first|refine zan (by omega) ?_|refine za3 (fun _=>?_) (fun _=>?_)|fail)|(refine EqN.id ?_;first|refine EqN.shrN m y rfl rfl (by decide) (by omega) ?_|refine zbq (m >>> y) 2 rfl rfl ?_|refine zaf T (1 <<< y) rfl rfl (by omega) ?_|(refine EqN.shlN _ _ Cst.h Cst.h rfl ?_ ?_ ?_;(· (repeat' (first|omega|refine And.intro ?_ ?_|exact zad (by omega)|exact zap (by omega)|refine zbb ?_ ?_|refine zao ?_ ?_|refine zau ?_ ?_|refine zal ?_ ?_|refine zav ?_|refine zaw ?_ ?_|refine zax ?_|refine zad ?_|fail)));(· (repeat' (first|omega|refine And.intro ?_ ?_|exact zad (by omega)|exact zap (by omega)|refine zbb ?_ ?_|refine zao ?_ ?_|refine zau ?_ ?_|refine zal ?_ ?_|refine zav ?_|refine zaw ?_ ?_|refine zax ?_|refine zad ?_|fail))))|(refine zaf _ _ Cst.h Cst.h ?_ ?_;· omega)|fail)|(refine SideN.mk ?_ ?_;· first|kernel_rfl|omega|exact List.cons_ne_nil _ _|fail)|refine CallD.det _ (fun _ hq X=>hp _) ?_|refine SegN.nthE p0 k rfl hkl encT_size qc ?_|refine zah [] ?_|fail)));all_goals (conv=>whnf)
    ·rename_i h3
     have h4:=h1 (by omega)
     rw [← h4]
     subst hT2
     (refine ⟨⟨y+1,by show y+1≤_;omega,by omega,?_,.inl ⟨rfl,rfl⟩,rfl,_,rfl,?_⟩⟩;rotate_left 1;exact .inl rfl;exact ⟨⟨_,rfl,Wk.refl _⟩,trivial⟩)
    ·rename_i h3
     have h4:=h2 (fun q=>h3 (by rw [q];rfl))
     rw [← h4]
     subst hT2
     (refine ⟨⟨y+1,by show y+1≤_;omega,by omega,?_,.inl ⟨rfl,rfl⟩,rfl,_,rfl,?_⟩⟩;rotate_left 1;exact .inl rfl;exact ⟨⟨_,rfl,Wk.refl _⟩,trivial⟩)
   ·obtain rfl:y=j+1:=by omega
    (repeat' ((conv=>whnf);(first|refine zas (by omega) ?_|(refine zaf _ _ Cst.h Cst.h ?_ ?_;· omega)|refine SideN.mk ⟨rfl,rfl,rfl,by dsimp only;omega,by simp only [maxLen];omega⟩ ?_|refine PtrN.loc _ rfl ?_|fail)));conv=>whnf
    (refine ⟨⟨(k+1,cs++[.str s,.int .i64 0,.int .i64 (tkK (O j) m (j+1):Nat)]),⟨by simp only;omega,hnew.symm⟩,by omega,?_,.inr ?_,rfl,_,rfl,?_⟩⟩;rotate_left 2;exact .inr ⟨by simp [zbe,below,zac,tr,encT_below,zbk,hbc,za5],by simp [belowH,Blk.below,zac,below,encT_below,zbk,hbc,za5]⟩;all_goals (repeat' (first|exact trivial|refine ⟨⟨_,rfl,?_⟩,?_⟩|fail));all_goals exact Wk.refl _)
  ·obtain rfl:k=fs.length:=by omega
   rw [List.take_length] at hcs
   subst hcs
   have h3:=fun tk H=>hsa j x tk H (by omega) (by omega)
   rcases Nat.lt_or_ge j K with hjK|hjK
   ·have hb:=hno j hjK x (by omega)
    rw [hb] at h3
    (repeat' ((conv=>whnf);(first|(refine IfN.id ?_;first|refine IfN.ff rfl ?_|refine zas (by omega) ?_|fail)|(refine zaf _ _ Cst.h Cst.h ?_ ?_;· omega)|refine CallN.det _ (h3 _ _) ?_|fail)));conv=>whnf
    (refine ⟨⟨x+1,⟨by omega,fun e=>by omega⟩,by omega,?_,.inr ?_,rfl,_,rfl,?_⟩⟩;rotate_left 2;exact .inr ⟨by simp [zbe,below,zac,tr,encT_below,zbk,hbc,za5],by simp [belowH,Blk.below,zac,below,encT_below,zbk,hbc,za5]⟩;all_goals (repeat' (first|exact trivial|refine ⟨⟨_,rfl,?_⟩,?_⟩|fail));all_goals exact Wk.refl _)
   ·obtain rfl:j=K:=by omega
    rcases Nat.lt_or_ge x L with hxl|hxg
    ·have hb:=hno2 x hxl
     rw [hb] at h3
     (repeat' ((conv=>whnf);(first|(refine IfN.id ?_;first|refine IfN.ff rfl ?_|refine zas (by omega) ?_|fail)|(refine zaf _ _ Cst.h Cst.h ?_ ?_;· omega)|refine CallN.det _ (h3 _ _) ?_|fail)));conv=>whnf
     (refine ⟨⟨x+1,⟨by omega,fun e=>by omega⟩,by omega,?_,.inr ?_,rfl,_,rfl,?_⟩⟩;rotate_left 2;exact .inr ⟨by simp [zbe,below,zac,tr,encT_below,zbk,hbc,za5],by simp [belowH,Blk.below,zac,below,encT_below,zbk,hbc,za5]⟩;all_goals (repeat' (first|exact trivial|refine ⟨⟨_,rfl,?_⟩,?_⟩|fail));all_goals exact Wk.refl _)
    ·obtain rfl:x=L:=by have:=hxL rfl;omega
     rw [hyes] at h3
     (repeat' ((conv=>whnf);(first|(refine IfN.id ?_;first|refine IfN.tt rfl ?_|refine zas (by omega) ?_|fail)|refine CallN.det _ (h3 _ _) ?_|fail)));conv=>whnf
     exact EndN.det (by simp [below,zac,encT_below]) (by (repeat' (first|exact trivial|refine And.intro ?_ ?_|exact Wk.refl _|exact wk_sl _ _ _|refine zbp ?_|refine wk_tup ?_|fail));done)
 ·have hxe:x=j+1:=by omega
  have hjK:j<K:=by
   rcases Nat.lt_or_ge j K with h|h
   ·exact h
   ·have:=hxL (by omega)
    omega
  (repeat' ((conv=>whnf);(first|refine zas (by omega) ?_|(refine zaf _ _ Cst.h Cst.h ?_ ?_;· omega)|fail)));conv=>whnf
  (refine ⟨⟨j+1,by show j+1≤_;omega,by omega,?_,.inr ?_,rfl,_,rfl,?_⟩⟩;rotate_left 2;exact .inl rfl;all_goals (repeat' (first|exact trivial|refine ⟨⟨_,rfl,?_⟩,?_⟩|fail));all_goals exact Wk.refl _)
end
end Go.Proofs.YtjflngchbeegcaaGreatDoor.P10.C
