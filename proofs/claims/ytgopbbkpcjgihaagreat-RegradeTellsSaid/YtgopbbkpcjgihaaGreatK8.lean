/- A text of the proof: the parts A38z, B38z, C38z, D38z, E38z, F38z, G38z, H38z, I38z, J38z, K38z, L38z, M38z, Y38z, N38z, PA38z, O38z, P38z. -/
import Derived.Laws.BitsAllLaws
import Derived.Sort.Grow
import Derived.Deep.Draws
import Derived.Shelf.SlSortCmp.WholeK
import Derived.Shelf.SlSortCmp.NoneTotal
import Derived.Test.YtgopbbkpcjgihaaGreatK7
set_option linter.unusedSimpArgs false
set_option linter.unusedVariables false
set_option maxHeartbeats 8000000
namespace Go.Proofs.YtgopbbkpcjgihaaGreat
open Go.Vsi
section
attribute [local irreducible] VW VCall VO
def btw (n l h:Int):Bool:=decide (l≤n)&&decide (n≤h)
theorem zdr {n l h:Int} (H:btw n l h=true):l≤n∧n≤h:=by simpa [btw] using H
theorem between_c (n l h:Int) (H:Heap):VDet Tryz.prog 66 [.int .i64 n,.int .i64 l,.int .i64 h] H (.bool (btw n l h)):=by
 refine zap Tryz.E0 zad Tryz.func66 (by kernel_rfl) rfl (ybv rfl) rfl fun hcl hbl=>?_
 (repeat' ((conv=>whnf);(first|refine zbq (fun _=>?_) (fun _=>?_)|refine zab [] ?_|fail)));all_goals (conv=>whnf)
 all_goals refine ya1 trivial (Wk.of_eq (congrArg AV.bool ?_))
 all_goals simp [btw]
 all_goals omega
structure Sch where
 pts:Int
 part:Int
 att:Int
 rty:Int
 hnt:Int
 cnt:Int
 lates:List (Int×Int)
def encP (p:Int×Int):List AV:=[.int .i64 p.1,.int .i64 p.2]
theorem zaf (n:Nat) (l:List (Int×Int)):zac n (l.flatMap encP):=zcn _ fun x=>by simp [encP,zac,below]
def Sch.cells (s:Sch):List AV:=[.int .i64 s.pts,.int .i64 s.part,.sl none s.lates.length (s.lates.flatMap encP),.int .i64 s.att,.int .i64 s.rty,.int .i64 s.hnt,.int .u8 s.cnt]
def okAt (l:List (Int×Int)) (i:Nat):Bool :=
 btw (l.getD i (0,0)).1 0 1000&&(btw (l.getD i (0,0)).2 0 100&&(i==0 || !(decide ((l.getD i (0,0)).1≤(l.getD (i-1) (0,0)).1) || decide ((l.getD i (0,0)).2<(l.getD (i-1) (0,0)).2))))
def zg0 (l:List (Int×Int)):Bool:=(List.range l.length).all (okAt l)
theorem rows_no {l:List (Int×Int)} {k:Nat} (hk:k<l.length) (h:okAt l k=false):zg0 l=false:=by
 unfold zg0
 rw [List.all_eq_false]
 exact ⟨k,ybo.2 hk,by simp [h]⟩
theorem rows_yes {l:List (Int×Int)} (h:∀ i,i<l.length→okAt l i=true):zg0 l=true:=by
 unfold zg0
 rw [yao]
 exact fun x hx=>h x (ybo.1 hx)
def zbv (s:Sch):Bool :=
 btw s.pts 0 10000&&(btw s.att 0 100&&(btw s.part 0 100&&(btw s.rty 0 100&&(btw s.hnt 0 100&&(!decide (s.cnt<1)&&(!decide (3<s.cnt)&&(!decide ((8:Int)<s.lates.length)&&zg0 s.lates)))))))
theorem zdi (s:Sch) (H:Heap):VDet Tryz.prog 47 [.agg s.cells] H (.bool (zbv s)):=by
 obtain ⟨pts,part,att,rty,hnt,cnt,lates⟩:=s
 unfold Sch.cells
 simp only
 refine zap Tryz.E0 zad Tryz.func47 (by kernel_rfl) rfl (ybv rfl) rfl fun hcl hbl=>?_
 (repeat' ((conv=>whnf);(first|(refine yai ?_;first|refine yas ?_|refine zbq (fun _=>?_) (fun _=>?_)|(refine IfN.mk ?_ ?_ <;> intro _)|fail)|refine yab _ (between_c _ _ _ _) ?_|refine zab [] ?_|fail)));all_goals (conv=>whnf)
 all_goals try (refine ya1 trivial (Wk.of_eq (congrArg AV.bool ?_));simp_all [zbv];done)
 refine zbg Tryz.E0 zad (σ:=Nat) (fun k=>k≤lates.length∧∀ i,i<k→okAt lates i=true) (fun k=>lates.length-k) (fun k=>[(48,.v (.int .i64 k))]) (fun _=>_) _ 0 rfl hcl [1,46,47] rfl ⟨yah _,fun i hi=>absurd hi (Nat.not_lt_zero i)⟩ ⟨⟨_,rfl,yae _⟩,trivial⟩ rfl (fun _ _=>rfl) ?_
 rintro k ⟨hk,hok⟩
 (repeat' ((conv=>whnf);(first|(refine yai ?_;first|refine yas ?_|refine zbq (fun _=>?_) (fun _=>?_)|(refine IfN.mk ?_ ?_ <;> intro _)|fail)|(refine ycp ?_;first|(refine zao _ _ Cst.h Cst.h ?_ ?_;· omega)|(refine zbi _ _ Cst.h Cst.h ?_ ?_;· omega)|fail)|(refine yaf ?_ ?_;· first|kernel_rfl|omega|exact yaa _ _|(simp;done)|(simp;omega)|exact trivial|assumption|fail)|refine yab _ (between_c _ _ _ _) ?_|refine zbt (0,0) k rfl (by omega) (fun _=>rfl) ?_|refine zbt (0,0) (k-1) (by omega) (by omega) (fun _=>rfl) ?_|refine zab [] ?_|fail)));all_goals (conv=>whnf)
 all_goals first
  | (refine ya1 trivial (Wk.of_eq (congrArg AV.bool ?_))
     have hno:okAt lates k=false:=by simp_all [okAt];try omega
     have:=rows_no (by omega) hno
     simp_all [zbv];done)
  | (refine ya1 trivial (Wk.of_eq (congrArg AV.bool ?_))
     have:=rows_yes (l:=lates) (fun i hi=>hok i (by omega))
     simp_all [zbv];done)
  | (have hyes:okAt lates k=true:=by simp_all [okAt];try omega
     (refine ⟨⟨k+1,⟨by omega,fun i hi=>by
      rcases yag i k with h|h
      ·exact hok i h
      ·have:i=k:=by omega
       exact this▸hyes⟩,by omega,?_,.inl ⟨rfl,rfl⟩,rfl,_,rfl,?_⟩⟩;rotate_left 1;(first|exact .inl rfl|exact .inr ⟨by simp [zau,below,zac,tr,zaf],by simp [za5,Blk.below,zac,below,zaf]⟩|fail);(repeat' (first|exact trivial|refine ⟨⟨_,rfl,?_⟩,?_⟩|fail));all_goals try (first|exact yae _|exact Wk.of_eq (congrArg (AV.int _) (by omega))|fail)))
structure Wrk where
 prog:Int
 days:Int
 att:Int
 hints:Int
def Wrk.cells (w:Wrk):List AV:=[.int .i64 w.prog,.int .i64 w.days,.int .i64 w.att,.int .i64 w.hints]
def zbr (w:Wrk):Bool:=btw w.prog 0 1152921504606846976&&(btw w.days 0 1000&&(btw w.att 1 100&&btw w.hints 0 100))
theorem wvalid_c (w:Wrk) (H:Heap):VDet Tryz.prog 58 [.agg w.cells] H (.bool (zbr w)):=by
 obtain ⟨prog,days,att,hints⟩:=w
 unfold Wrk.cells
 simp only
 refine zap Tryz.E0 zad Tryz.func58 (by kernel_rfl) rfl (ybv rfl) rfl fun hcl hbl=>?_
 (repeat' ((conv=>whnf);(first|(refine IfN.mk ?_ ?_ <;> intro _)|refine yab _ (between_c _ _ _ _) ?_|refine zab [] ?_|fail)));all_goals (conv=>whnf)
 all_goals refine ya1 trivial (Wk.of_eq (congrArg AV.bool ?_))
 all_goals simp_all [zbr]
theorem mask32 (x:Int) (h:0≤x∧x<18446744073709551616):bits .and .u64 x 4294967295=x % 4294967296:=by
 rw [u64_and x 4294967295 h.1 h.2 (by omega) (by omega)]
 have:(4294967295:Int).toNat=2 ^ 32-1:=by decide
 rw [this,Nat.and_two_pow_sub_one_eq_mod]
 omega
theorem mul_le32 {a b:Int} (ha:0≤a∧a≤4294967295) (hb:0≤b∧b≤4294967295):0≤a * b∧a * b≤18446744065119617025 :=
 ⟨Int.mul_nonneg ha.1 hb.1,Int.le_trans (Int.mul_le_mul ha.2 hb.2 hb.1 (by omega)) (by decide)⟩
theorem mul64_c (x y:Int) (hx:0≤x∧x<18446744073709551616) (hy:0≤y∧y<18446744073709551616) (H:Heap) :
  VDet Tryz.prog 93 [.int .u64 x,.int .u64 y] H (.tup [.int .u64 (x * y / 18446744073709551616),.int .u64 (x * y % 18446744073709551616)]):=by
 have h00:=mul_le32 (a:=x % 4294967296) (b:=y % 4294967296) (by omega) (by omega)
 have h10:=mul_le32 (a:=x / 4294967296) (b:=y % 4294967296) (by omega) (by omega)
 have h01:=mul_le32 (a:=x % 4294967296) (b:=y / 4294967296) (by omega) (by omega)
 have h11:=mul_le32 (a:=x / 4294967296) (b:=y / 4294967296) (by omega) (by omega)
 have key:x * y=x / 4294967296 * (y / 4294967296) * 18446744073709551616+(x / 4294967296 * (y % 4294967296)+x % 4294967296 * (y / 4294967296)) * 4294967296+x % 4294967296 * (y % 4294967296):=by
  have e1:x=x / 4294967296 * 4294967296+x % 4294967296:=by omega
  have e2:y=y / 4294967296 * 4294967296+y % 4294967296:=by omega
  generalize x / 4294967296=x1 at *
  generalize x % 4294967296=x0 at *
  generalize y / 4294967296=y1 at *
  generalize y % 4294967296=y0 at *
  subst e1 e2
  simp only [Int.add_mul,Int.mul_add]
  have e3:x1 * 4294967296 * (y1 * 4294967296)=x1 * y1 * 18446744073709551616:=by
   rw [Int.mul_assoc x1,Int.mul_left_comm 4294967296 y1,← Int.mul_assoc x1 y1];rfl
  have e4:x1 * 4294967296 * y0=x1 * y0 * 4294967296:=by rw [Int.mul_right_comm]
  have e5:x0 * (y1 * 4294967296)=x0 * y1 * 4294967296:=by rw [Int.mul_assoc]
  rw [e3,e4,e5]
  omega
 rw [key]
 refine zap Tryz.E0 zad Tryz.func93 (by kernel_rfl) rfl (ybv rfl) rfl fun hcl hbl=>?_
 (repeat' ((conv=>whnf);(first|(refine ycp ?_;first|refine EqN.mk _ (mask32 _ (by omega)) ?_|refine EqN.shrL 32 4294967296 rfl rfl rfl ?_|refine EqN.u64 (by omega) ?_|refine EqN.mk _ rfl ?_|fail)|(refine yaf ?_ ?_;· first|kernel_rfl|omega|exact yaa _ _|(simp;done)|(simp;omega)|exact trivial|assumption|fail)|refine zab [] ?_|fail)));all_goals (conv=>whnf)
 refine ya1 (by simp [below,zac]) (Wk.of_eq ?_)
 simp only [AV.tup.injEq,List.cons.injEq,AV.int.injEq,true_and,and_true]
 refine ⟨by omega,?_⟩
 rw [key,IntKind.wrap_u64]
end
section
attribute [local irreducible] VW VCall VO bits
theorem or_add (h l:Int) (h1:0≤h∧h<1152921504606846976) (h2:0≤l∧l<16):bits .or .u64 (h * 16) l=h * 16+l:=by
 rw [u64_or (h * 16) l (by omega) (by omega) (by omega) (by omega)]
 obtain ⟨a,rfl⟩:=Int.eq_ofNat_of_zero_le h1.1
 obtain ⟨b,rfl⟩:=Int.eq_ofNat_of_zero_le h2.1
 have e:((a:Int) * 16).toNat=a <<< 4:=by
  rw [Nat.shiftLeft_eq]
  omega
 rw [e,ybj,← Nat.shiftLeft_add_eq_or_of_lt (by omega),Nat.shiftLeft_eq]
 omega
def baseF (s:Sch) (w:Wrk):Int:=if w.prog=1152921504606846976 then s.pts else s.pts * s.part * w.prog / 1152921504606846976 / 100
theorem base_c (s:Sch) (w:Wrk) (h1:0≤s.pts∧s.pts≤10000) (h2:0≤s.part∧s.part≤100) (h3:0≤w.prog∧w.prog≤1152921504606846976) (H:Heap):VDet Tryz.prog 74 [.agg s.cells,.agg w.cells] H (.int .i64 (baseF s w)):=by
 obtain ⟨pts,part,att,rty,hnt,cnt,lates⟩:=s
 obtain ⟨prog,days,wat,hints⟩:=w
 simp only at h1 h2 h3
 have hp:0≤pts * part∧pts * part≤1000000:=⟨Int.mul_nonneg h1.1 h2.1,Int.le_trans (Int.mul_le_mul h1.2 h2.2 h2.1 (by omega)) (by decide)⟩
 have hq:0≤pts * part * prog∧pts * part * prog≤1152921504606846976000000:=⟨Int.mul_nonneg hp.1 h3.1,Int.le_trans (Int.mul_le_mul hp.2 h3.2 h3.1 (by omega)) (by decide)⟩
 unfold Sch.cells Wrk.cells
 simp only
 refine zap Tryz.E0 zad Tryz.func74 (by kernel_rfl) rfl (ybv rfl) rfl fun hcl hbl=>?_
 (repeat' ((conv=>whnf);(first|refine zbq (fun _=>?_) (fun _=>?_)|(refine ycp ?_;first|refine EqN.shrL 60 1152921504606846976 rfl rfl rfl ?_|refine EqN.shlU 4 16 rfl rfl rfl (by omega) ?_|refine EqN.mk _ (or_add _ _ (by omega) (by omega)) ?_|refine ycf (by omega) ?_|refine EqN.quo (by omega) ?_|refine EqN.u64 (by omega) ?_|fail)|refine yaf (by omega) ?_|refine yab _ (mul64_c _ _ (by omega) (by omega) _) ?_|fail)));all_goals (conv=>whnf)
 ·refine ya1 trivial (Wk.of_eq (congrArg (AV.int _) ?_))
  simp [baseF, *]
 ·refine ya1 trivial (Wk.of_eq (congrArg (AV.int _) ?_))
  simp only [baseF]
  rw [if_neg (by assumption)]
  omega
def lateF (s:Sch) (w:Wrk):Int:=s.lates.foldl (fun p l=>if 0<w.days∧l.1≤w.days then l.2 else p) 0
def zd3 (s:Sch) (w:Wrk):Int:=if s.att≠0∧s.att<w.att then 100 else min (s.rty * (w.att-1)) 100
def zea (s:Sch) (w:Wrk):Int:=min (s.hnt * w.hints) 100
theorem late_c (s:Sch) (w:Wrk) (hl:s.lates.length≤8) (H:Heap):VDet Tryz.prog 94 [.rptr s.cells,.rptr w.cells] H (.int .i64 (lateF s w)):=by
 obtain ⟨pts,part,att,rty,hnt,cnt,lates⟩:=s
 obtain ⟨prog,days,wat,hints⟩:=w
 simp only at hl
 unfold Sch.cells Wrk.cells
 simp only
 refine zap Tryz.E0 zad Tryz.func94 (by kernel_rfl) rfl (ybv rfl) rfl fun hcl hbl=>?_
 conv=>whnf
 refine zbg Tryz.E0 zad (σ:=Nat) (fun k=>k≤lates.length) (fun k=>lates.length-k) (fun k=>[(3,.v (.int .i64 ((lates.take k).foldl (fun p l=>if 0<days∧l.1≤days then l.2 else p) 0))),(9,.v (.int .i64 k))]) (fun _=>[]) _ 0 rfl hcl [1,7,8] rfl (yah _) ⟨⟨_,rfl,yae _⟩,⟨_,rfl,yae _⟩,trivial⟩ rfl (fun _ _=>rfl) ?_
 rintro k hk
 (repeat' ((conv=>whnf);(first|refine zbq (fun _=>?_) (fun _=>?_)|(refine zao _ _ Cst.h Cst.h ?_ ?_;· omega)|(refine yaf ?_ ?_;· first|omega|exact yaa _ _|fail)|refine zbt (0,0) k rfl (by omega) (fun _=>rfl) ?_|fail)));all_goals (conv=>whnf)
 ·(refine ⟨⟨k+1,by omega,by omega,?_,.inl ⟨rfl,rfl⟩,rfl,_,rfl,?_⟩⟩;rotate_left 1;exact .inr ⟨by simp [zau,below,zac,tr,zaf],by simp [za5,Blk.below,zac,below,zaf]⟩;(repeat' (first|exact trivial|refine ⟨⟨_,rfl,?_⟩,?_⟩|fail));all_goals try exact yae _)
  refine Wk.of_eq (congrArg (AV.int _) ?_)
  rw [zda _ _ _ (0,0) _ (by omega),if_pos ⟨by assumption,by assumption⟩]
 ·(refine ⟨⟨k+1,by omega,by omega,?_,.inl ⟨rfl,rfl⟩,rfl,_,rfl,?_⟩⟩;rotate_left 1;exact .inr ⟨by simp [zau,below,zac,tr,zaf],by simp [za5,Blk.below,zac,below,zaf]⟩;(repeat' (first|exact trivial|refine ⟨⟨_,rfl,?_⟩,?_⟩|fail));all_goals try exact yae _)
  refine Wk.of_eq (congrArg (AV.int _) ?_)
  rw [zda _ _ _ (0,0) _ (by omega),if_neg (fun h=>absurd h.2 (by assumption))]
 ·(refine ⟨⟨k+1,by omega,by omega,?_,.inl ⟨rfl,rfl⟩,rfl,_,rfl,?_⟩⟩;rotate_left 1;exact .inr ⟨by simp [zau,below,zac,tr,zaf],by simp [za5,Blk.below,zac,below,zaf]⟩;(repeat' (first|exact trivial|refine ⟨⟨_,rfl,?_⟩,?_⟩|fail));all_goals try exact yae _)
  refine Wk.of_eq (congrArg (AV.int _) ?_)
  rw [zda _ _ _ (0,0) _ (by omega),if_neg (fun h=>absurd h.1 (by assumption))]
 ·refine ya1 trivial (Wk.of_eq (congrArg (AV.int _) ?_))
  rw [lateF,yb3 (by omega)]
theorem retry_c (s:Sch) (w:Wrk) (h1:0≤s.rty∧s.rty≤100) (h2:1≤w.att∧w.att≤100) (H:Heap):VDet Tryz.prog 95 [.rptr s.cells,.rptr w.cells] H (.int .i64 (zd3 s w)):=by
 obtain ⟨pts,part,att,rty,hnt,cnt,lates⟩:=s
 obtain ⟨prog,days,wat,hints⟩:=w
 simp only at h1 h2
 have hq:0≤rty * (wat-1)∧rty * (wat-1)≤10000:=⟨Int.mul_nonneg h1.1 (by omega),Int.le_trans (Int.mul_le_mul h1.2 (by omega:wat-1≤100) (by omega) (by omega)) (by decide)⟩
 unfold Sch.cells Wrk.cells
 simp only
 refine zap Tryz.E0 zad Tryz.func95 (by kernel_rfl) rfl (ybv rfl) rfl fun hcl hbl=>?_
 (repeat' ((conv=>whnf);(first|(refine yai ?_;first|refine yas ?_|refine zbq (fun _=>?_) (fun _=>?_)|fail)|refine ycf (by omega) ?_|fail)));all_goals (conv=>whnf)
 all_goals refine ya1 trivial (Wk.of_eq (congrArg (AV.int _) ?_))
 all_goals simp [zd3, *]
theorem hints_c (s:Sch) (w:Wrk) (h1:0≤s.hnt∧s.hnt≤100) (h2:0≤w.hints∧w.hints≤100) (H:Heap):VDet Tryz.prog 96 [.rptr s.cells,.rptr w.cells] H (.int .i64 (zea s w)):=by
 obtain ⟨pts,part,att,rty,hnt,cnt,lates⟩:=s
 obtain ⟨prog,days,wat,hints⟩:=w
 simp only at h1 h2
 have hq:0≤hnt * hints∧hnt * hints≤10000:=⟨Int.mul_nonneg h1.1 (by omega),Int.le_trans (Int.mul_le_mul h1.2 h2.2 (by omega) (by omega)) (by decide)⟩
 unfold Sch.cells Wrk.cells
 simp only
 refine zap Tryz.E0 zad Tryz.func96 (by kernel_rfl) rfl (ybv rfl) rfl fun hcl hbl=>?_
 (repeat' ((conv=>whnf);(first|refine ycf (by omega) ?_|fail)));conv=>whnf
 all_goals refine ya1 trivial (Wk.of_eq (congrArg (AV.int _) ?_))
 all_goals simp [zea, *]
theorem losses_c (s:Sch) (w:Wrk) (H:Heap):VDet Tryz.prog 75 [.agg s.cells,.agg w.cells] H (.sl none 3 [.clo (.func 94) [] [.rptr s.cells,.rptr w.cells],.clo (.func 95) [] [.rptr s.cells,.rptr w.cells],.clo (.func 96) [] [.rptr s.cells,.rptr w.cells]]):=by
 refine zap Tryz.E0 zad Tryz.func75 (by kernel_rfl) rfl (ybv rfl) rfl fun hcl hbl=>?_
 (repeat' ((conv=>whnf);(first|refine OrN.l ?_|fail)));conv=>whnf
 refine ydc (by simp [below,zac,zgm,Sch.cells,Wrk.cells,zaf]) ?_ (wk_sx _ _)
 (repeat' (first|exact FrzL.nil|refine FrzL.cons ?_ ?_|refine Frz.sx ?_|refine Frz.clo ?_ ?_|refine Frz.ptr rfl rfl (yda _)|fail))
structure Mrk where
 points:Int
 base:Int
 late:Int
 retry:Int
 hints:Int
def Mrk.cells (m:Mrk):List AV:=[.int .i64 m.points,.int .i64 m.base,.int .i64 m.late,.int .i64 m.retry,.int .i64 m.hints]
def markF (s:Sch) (w:Wrk):Mrk :=
 ⟨baseF s w * (100-lateF s w) * (100-zd3 s w) * (100-zea s w) / 1000000,baseF s w,lateF s w,zd3 s w,zea s w⟩
theorem zca {s:Sch} (h:zbv s=true):(0≤s.pts∧s.pts≤10000)∧(0≤s.att∧s.att≤100)∧(0≤s.part∧s.part≤100)∧(0≤s.rty∧s.rty≤100)∧(0≤s.hnt∧s.hnt≤100)∧(1≤s.cnt∧s.cnt≤3)∧s.lates.length≤8∧zg0 s.lates=true:=by
 simp only [zbv,yak,Bool.not_eq_true',decide_eq_false_iff_not] at h
 obtain ⟨h1,h2,h3,h4,h5,h6,h7,h8,h9⟩:=h
 exact ⟨zdr h1,zdr h2,zdr h3,zdr h4,zdr h5,by omega,by omega,h9⟩
theorem zee {w:Wrk} (h:zbr w=true):(0≤w.prog∧w.prog≤1152921504606846976)∧(0≤w.days∧w.days≤1000)∧(1≤w.att∧w.att≤100)∧(0≤w.hints∧w.hints≤100):=by
 simp only [zbr,yak] at h
 obtain ⟨h1,h2,h3,h4⟩:=h
 exact ⟨zdr h1,zdr h2,zdr h3,zdr h4⟩
theorem base_bd {s:Sch} {w:Wrk} (h1:0≤s.pts∧s.pts≤10000) (h2:0≤s.part∧s.part≤100) (h3:0≤w.prog∧w.prog≤1152921504606846976):0≤baseF s w∧baseF s w≤s.pts:=by
 unfold baseF
 split
 ·omega
 ·have hp:0≤s.pts * s.part∧s.pts * s.part≤s.pts * 100:=⟨Int.mul_nonneg h1.1 h2.1,Int.mul_le_mul_of_nonneg_left h2.2 h1.1⟩
  have hq:0≤s.pts * s.part * w.prog∧s.pts * s.part * w.prog≤s.pts * 100 * 1152921504606846976:=⟨Int.mul_nonneg hp.1 h3.1,Int.mul_le_mul hp.2 h3.2 h3.1 (by omega)⟩
  omega
theorem okAt_bd {l:List (Int×Int)} (h:zg0 l=true) {i:Nat} (hi:i<l.length):okAt l i=true:=by
 unfold zg0 at h
 rw [yao] at h
 exact h i (ybo.2 hi)
theorem late_bd {s:Sch} {w:Wrk} (h:zg0 s.lates=true):0≤lateF s w∧lateF s w≤100:=by
 have key:∀ k,k≤s.lates.length→0≤(s.lates.take k).foldl (fun p l=>if 0<w.days∧l.1≤w.days then l.2 else p) 0∧(s.lates.take k).foldl (fun p l=>if 0<w.days∧l.1≤w.days then l.2 else p) 0≤100:=by
  intro k
  induction k with
  | zero=>intro _;simp
  | succ k ih =>
    intro hk
    rw [zda _ _ _ (0,0) _ (by omega)]
    have h1:=okAt_bd h (i:=k) (by omega)
    simp only [okAt,yak] at h1
    have h2:=zdr h1.2.1
    split
    ·exact h2
    ·exact ih (by omega)
 have:=key s.lates.length (yax _)
 rwa [ya2] at this
theorem retry_bd {s:Sch} {w:Wrk} (h1:0≤s.rty) (h2:1≤w.att):0≤zd3 s w∧zd3 s w≤100:=by
 unfold zd3
 have:=Int.mul_nonneg h1 (show 0≤w.att-1 by omega)
 split <;> omega
theorem hints_bd {s:Sch} {w:Wrk} (h1:0≤s.hnt) (h2:0≤w.hints):0≤zea s w∧zea s w≤100:=by
 unfold zea
 have:=Int.mul_nonneg h1 h2
 omega
theorem zg4 {a b M:Int} (h1:0≤a∧a≤M) (h2:0≤b∧b≤100):0≤a * b∧a * b≤M * 100 :=
 ⟨Int.mul_nonneg h1.1 h2.1,Int.mul_le_mul h1.2 h2.2 h2.1 (by omega)⟩
theorem mark_c (s:Sch) (w:Wrk) (hs:zbv s=true) (hw:zbr w=true) (H:Heap):VDet Tryz.prog 59 [.agg s.cells,.agg w.cells] H (.agg (markF s w).cells):=by
 obtain ⟨s1,s2,s3,s4,s5,s6,s7,s8⟩:=zca hs
 obtain ⟨w1,w2,w3,w4⟩:=zee hw
 have b1:=base_bd s1 s3 w1
 have b2:=late_bd (w:=w) s8
 have b3:=retry_bd s4.1 w3.1
 have b4:=hints_bd s5.1 w4.1
 have m1:=zg4 (M:=10000) (b:=100-lateF s w) (a:=baseF s w) (by omega) (by omega)
 have m2:=zg4 (b:=100-zd3 s w) m1 (by omega)
 have m3:=zg4 (b:=100-zea s w) m2 (by omega)
 refine zap Tryz.E0 zad Tryz.func59 (by kernel_rfl) rfl (ybv rfl) rfl fun hcl hbl=>?_
 (repeat' ((conv=>whnf);(first|(refine ybi ?_;first|refine yab _ (base_c s w s1 s3 w1 _) ?_|refine yab _ (losses_c s w _) ?_|fail)|fail)));conv=>whnf
 refine ybd Tryz.E0 zad 4 rfl ?_
 (repeat' ((conv=>whnf);(first|(refine yai ?_;first|refine yaq rfl ?_|refine yau rfl ?_|fail)|(refine ycp ?_;first|(refine zao _ _ Cst.h Cst.h ?_ ?_;· omega)|refine EqN.remN _ _ (by first|with_reducible rfl|exact Cst.h) (by first|with_reducible rfl|exact Cst.h) ?_|refine ycf (by omega) ?_|fail)|(refine yaf ?_ ?_;· first|kernel_rfl|omega|exact yaa _ _|fail)|(refine ycc ?_;first|refine yan _ (fun _ hq X=>late_c s w s7 _) ?_|refine yan _ (fun _ hq X=>retry_c s w s4 w3 _) ?_|refine yan _ (fun _ hq X=>hints_c s w s5 w4 _) ?_|fail)|refine yb6 _ rfl ?_|refine SegN.mk _ (seg_rfl rfl) ?_|refine OfsN.at_ (by omega) ?_|refine zab [] ?_|fail)));conv=>whnf
 (repeat' ((conv=>whnf);(first|refine EqN.mk _ rfl ?_|refine yaf (by decide) ?_|fail)));conv=>whnf
 refine ya1 (by simp [below,zac,Mrk.cells]) (Wk.of_eq ?_)
 simp only [markF,Mrk.cells,AV.agg.injEq,List.cons.injEq,AV.int.injEq,true_and,and_true]
 have e1:((1 * 100 % (2 ^ IntKind.i64.bits:Int).natAbs * 100 % (2 ^ IntKind.i64.bits:Int).natAbs * 100 % (2 ^ IntKind.i64.bits:Int).natAbs:Nat):Int)=1000000:=by decide
 rw [e1,Int.tdiv_eq_ediv_of_nonneg m3.1,IntKind.wrap_i64]
 omega
def zcc (s:Sch) (w:Wrk):Mrk×Int:=if zbv s=true∧zbr w=true then (markF s w,0) else (⟨0,0,0,0,0⟩,2)
theorem grade_c (s:Sch) (w:Wrk) (H:Heap):VDet Tryz.prog 39 [.agg s.cells,.agg w.cells] H (.tup [.agg (zcc s w).1.cells,.int .i64 (zcc s w).2]):=by
 by_cases h1:zbv s=true
 ·by_cases h2:zbr w=true
  ·rw [show zcc s w=(markF s w,0) from if_pos ⟨h1,h2⟩]
   refine zap Tryz.E0 zad Tryz.func39 (by kernel_rfl) rfl (ybv rfl) rfl fun hcl hbl=>?_
   (repeat' ((conv=>whnf);(first|(refine yai ?_;first|refine yas ?_|refine yaq (by assumption) ?_|fail)|(refine ybi ?_;first|refine yab _ (zdi s _) ?_|refine yab _ (wvalid_c w _) ?_|refine yab _ (mark_c s w h1 h2 _) ?_|fail)|fail)));conv=>whnf
   exact ya1 (by simp [below,zac,Mrk.cells]) (yae _)
  ·rw [show zcc s w=(⟨0,0,0,0,0⟩,2) from if_neg (fun h=>h2 h.2)]
   have h2':zbr w=false:=by simpa using h2
   refine zap Tryz.E0 zad Tryz.func39 (by kernel_rfl) rfl (ybv rfl) rfl fun hcl hbl=>?_
   (repeat' ((conv=>whnf);(first|(refine yai ?_;first|refine yas ?_|refine yaq (by assumption) ?_|refine yau (by assumption) ?_|fail)|(refine ybi ?_;first|refine yab _ (zdi s _) ?_|refine yab _ (wvalid_c w _) ?_|fail)|fail)));conv=>whnf
   exact ya1 (by simp [below,zac,Mrk.cells]) (yae _)
 ·rw [show zcc s w=(⟨0,0,0,0,0⟩,2) from if_neg (fun h=>h1 h.1)]
  have h1':zbv s=false:=by simpa using h1
  refine zap Tryz.E0 zad Tryz.func39 (by kernel_rfl) rfl (ybv rfl) rfl fun hcl hbl=>?_
  (repeat' ((conv=>whnf);(first|(refine yai ?_;first|refine yas ?_|refine yau (by assumption) ?_|fail)|refine yab _ (zdi s _) ?_|fail)));conv=>whnf
  exact ya1 (by simp [below,zac,Mrk.cells]) (yae _)
def findF {α:Type} (p:α→Bool):List α→Int→Int
 | [],_=>-1
 | x::l,i=>if p x then i else findF p l (i+1)
theorem indexFunc_c (l:List Wrk) (hl:l.length≤4611686018427387904) (tok:Option Nat) (F:FuncId) (cs:List AV) (p:Wrk→Bool) (hp:∀ w H,VDet Tryz.prog F (.agg w.cells::cs) H (.bool (p w))) (H:Heap) :
  VDet Tryz.prog 73 [.sl tok l.length (l.flatMap Wrk.cells),.clo (.func F) [] cs] H (.int .i64 (findF p l 0)):=by
 refine zap Tryz.E0 zad Tryz.func73 (by kernel_rfl) rfl (ybv rfl) rfl fun hcl hbl=>?_
 conv=>whnf
 refine zbg Tryz.E0 zad (σ:=Nat) (fun k=>k≤l.length∧findF p l 0=findF p (l.drop k) k) (fun k=>l.length-k) (fun k=>[(8,.v (.int .i64 k))]) (fun _=>[]) _ 0 rfl hcl [0,1,7] rfl ⟨yah _,rfl⟩ ⟨⟨_,rfl,yae _⟩,trivial⟩ rfl (fun _ _=>rfl) ?_
 rintro k ⟨hk,hf⟩
 by_cases hlt:k<l.length
 ·have hd:findF p (l.drop k) k=if p (l.getD k ⟨0,0,0,0⟩) then (k:Int) else findF p (l.drop (k+1)) (k+1):=by
    rw [List.drop_eq_getElem_cons hlt,findF]
    simp [yal hlt]
  (repeat' ((conv=>whnf);(first|(refine yai ?_;first|refine yar (by omega) ?_|(refine IfN.mk ?_ ?_ <;> intro _)|fail)|(refine zao _ _ Cst.h Cst.h ?_ ?_;· omega)|(refine yaf ?_ ?_;· first|omega|exact yaa _ _|fail)|refine zbt ⟨0,0,0,0⟩ k rfl (by omega) (fun _=>rfl) ?_|refine yab _ (hp _ _) ?_|fail)));all_goals (conv=>whnf)
  ·refine ya1 trivial (Wk.of_eq (congrArg (AV.int _) ?_))
   rw [hf,hd,if_pos (by assumption)]
  ·(refine ⟨⟨k+1,⟨by omega,by rw [hf,hd,if_neg (by simp_all)];rfl⟩,by omega,?_,.inl ⟨rfl,rfl⟩,rfl,_,rfl,?_⟩⟩;rotate_left 1;exact .inl rfl;exact ⟨⟨_,rfl,yae _⟩,trivial⟩)
 ·(repeat' ((conv=>whnf);(first|refine zat (by omega) ?_|fail)));conv=>whnf
  refine ya1 trivial (Wk.of_eq (congrArg (AV.int _) ?_))
  rw [hf,ycy (by omega),findF]
theorem zfu {α:Type} (p:α→Bool):∀ (l:List α) (i:Int),0≤i→decide (0≤findF p l i)=l.any p
 | [],i,_=>by simp [findF]
 | x::l,i,h=>by
   simp only [findF,List.any_cons]
   by_cases hp:p x=true
   ·simp [hp,h]
   ·simp [hp,zfu p l (i+1) (by omega)]
theorem zdq (l:List Wrk) (hl:l.length≤4611686018427387904) (tok:Option Nat) (F:FuncId) (cs:List AV) (p:Wrk→Bool) (hp:∀ w H,VDet Tryz.prog F (.agg w.cells::cs) H (.bool (p w))) (H:Heap) :
  VDet Tryz.prog 56 [.sl tok l.length (l.flatMap Wrk.cells),.clo (.func F) [] cs] H (.bool (l.any p)):=by
 refine zap Tryz.E0 zad Tryz.func56 (by kernel_rfl) rfl (ybv rfl) rfl fun hcl hbl=>?_
 (repeat' ((conv=>whnf);(first|refine yab _ (indexFunc_c l hl tok F cs p hp _) ?_|fail)));conv=>whnf
 refine ya1 trivial (Wk.of_eq (congrArg AV.bool ?_))
 rw [← zfu p l 0 (by omega)]
theorem total1_c (w:Wrk) (H:Heap):VDet Tryz.prog 57 [.agg w.cells] H (.bool (!zbr w)):=by
 refine zap Tryz.E0 zad Tryz.func57 (by kernel_rfl) rfl (ybv rfl) rfl fun hcl hbl=>?_
 (repeat' ((conv=>whnf);(first|refine yab _ (wvalid_c w _) ?_|fail)));conv=>whnf
 exact eT trivial
def encI (x:Int):List AV:=[.int .i64 x]
theorem encI_below (n:Nat) (l:List Int):zac n (l.flatMap encI):=zcn _ fun x=>by simp [encI,zac,below]
def maxL (l:List Int):Int:=l.tail.foldl max (l.getD 0 0)
theorem max_c (l:List Int) (h0:0<l.length) (hl:l.length≤4611686018427387904) (tok:Option Nat) (H:Heap):VDet Tryz.prog 77 [.sl tok l.length (l.flatMap encI)] H (.int .i64 (maxL l)):=by
 refine zap Tryz.E0 zad Tryz.func77 (by kernel_rfl) rfl (ybv rfl) rfl fun hcl hbl=>?_
 (repeat' ((conv=>whnf);(first|refine zat (by omega) ?_|(refine yaf ?_ ?_;· first|omega|exact yaa _ _|fail)|refine zbt 0 0 rfl (by omega) (fun _=>rfl) ?_|fail)));conv=>whnf
 refine zbg Tryz.E0 zad (σ:=Nat) (fun k=>1≤k∧k≤l.length) (fun k=>l.length-k) (fun k=>[(3,.v (.int .i64 (maxL (l.take k)))),(4,.v (.int .i64 k))]) (fun _=>[]) _ 1 rfl hcl [0] rfl ⟨yax _,h0⟩ ⟨⟨_,rfl,Wk.of_eq ?_⟩,⟨_,rfl,yae _⟩,trivial⟩ rfl (fun _ _=>rfl) ?_
 ·cases l with
  | nil=>simp at h0
  | cons x l=>simp [maxL,tr]
 rintro k ⟨hk1,hk⟩
 (repeat' ((conv=>whnf);(first|refine zbq (fun _=>?_) (fun _=>?_)|(refine zao _ _ Cst.h Cst.h ?_ ?_;· omega)|(refine yaf ?_ ?_;· first|omega|exact yaa _ _|fail)|refine zbt 0 k rfl (by omega) (fun _=>rfl) ?_|fail)));all_goals (conv=>whnf)
 ·(refine ⟨⟨k+1,by omega,by omega,?_,.inl ⟨rfl,rfl⟩,rfl,_,rfl,?_⟩⟩;rotate_left 1;exact .inl rfl;(repeat' (first|exact trivial|refine ⟨⟨_,rfl,?_⟩,?_⟩|fail));all_goals try exact yae _)
  refine Wk.of_eq (congrArg (AV.int _) ?_)
  cases l with
  | nil=>simp at h0
  | cons x l =>
    obtain ⟨k,rfl⟩:∃ j,k=j+1:=⟨k-1,by omega⟩
    simp only [maxL,List.take_succ_cons,List.tail_cons,List.getD_cons_zero,List.getD_cons_succ]
    rw [zda _ _ _ 0 _ (by simp at *;omega)]
 ·refine ya1 trivial (Wk.of_eq (congrArg (AV.int _) ?_))
  rw [yb3 (by omega)]
theorem ways1_c (l:List Int) (h0:0<l.length) (hl:l.length≤4611686018427387904) (tok:Option Nat) (H:Heap):VDet Tryz.prog 76 [.sl tok l.length (l.flatMap encI)] H (.int .i64 (maxL l)):=by
 refine zap Tryz.E0 zad Tryz.func76 (by kernel_rfl) rfl (ybv rfl) rfl fun hcl hbl=>?_
 (repeat' ((conv=>whnf);(first|refine yab _ (max_c l h0 hl tok _) ?_|fail)));conv=>whnf
 exact eT trivial
theorem ways2_c (l:List Int) (h0:0<l.length) (hl:l.length≤4611686018427387904) (tok:Option Nat) (H:Heap):VDet Tryz.prog 78 [.sl tok l.length (l.flatMap encI)] H (.int .i64 (l.getD (l.length-1) 0)):=by
 refine zap Tryz.E0 zad Tryz.func78 (by kernel_rfl) rfl (ybv rfl) rfl fun hcl hbl=>?_
 (repeat' ((conv=>whnf);(first|(refine zbi _ _ Cst.h Cst.h ?_ ?_;· omega)|(refine yaf ?_ ?_;· first|omega|exact yaa _ _|fail)|refine zbt 0 (l.length-1) (by omega) (by omega) (fun _=>rfl) ?_|fail)));conv=>whnf
 exact eT trivial
def sumL (l:List Int):Int:=l.foldl (·+·) 0
theorem sum_bd (l:List Int) (hb:∀ x∈l,0≤x∧x≤10000):∀ k,k≤l.length→0≤sumL (l.take k)∧sumL (l.take k)≤10000 * k:=by
 intro k
 induction k with
 | zero=>intro _;simp [sumL]
 | succ k ih =>
   intro hk
   have h1:=ih (by omega)
   have h2:=hb (l.getD k 0) (by simp [yal (show k<l.length by omega)])
   unfold sumL at h1 ⊢
   rw [zda _ _ _ 0 _ (by omega)]
   omega
theorem ways3_c (l:List Int) (h0:0<l.length) (hl:l.length≤4294967296) (hb:∀ x∈l,0≤x∧x≤10000) (tok:Option Nat) (H:Heap):VDet Tryz.prog 79 [.sl tok l.length (l.flatMap encI)] H (.int .i64 (sumL l / l.length)):=by
 refine zap Tryz.E0 zad Tryz.func79 (by kernel_rfl) rfl (ybv rfl) rfl fun hcl hbl=>?_
 conv=>whnf
 refine zbg Tryz.E0 zad (σ:=Nat) (fun k=>k≤l.length) (fun k=>l.length-k) (fun k=>[(3,.v (.int .i64 (sumL (l.take k)))),(8,.v (.int .i64 k))]) (fun _=>[]) _ 0 rfl hcl [0,6,7] rfl (yah _) ⟨⟨_,rfl,yae _⟩,⟨_,rfl,yae _⟩,trivial⟩ rfl (fun _ _=>rfl) ?_
 rintro k hk
 have hs:=sum_bd l hb k hk
 by_cases hlt:k<l.length
 ·have hx:=hb (l.getD k 0) (by simp [yal hlt])
  (repeat' ((conv=>whnf);(first|refine yar (by omega) ?_|(refine ycp ?_;first|(refine zao _ _ Cst.h Cst.h ?_ ?_;· omega)|refine ycf (by omega) ?_|fail)|(refine yaf ?_ ?_;· first|omega|exact yaa _ _|fail)|refine zbt 0 k rfl (by omega) (fun _=>rfl) ?_|fail)));conv=>whnf
  (refine ⟨⟨k+1,by omega,by omega,?_,.inl ⟨rfl,rfl⟩,rfl,_,rfl,?_⟩⟩;rotate_left 1;exact .inl rfl;(repeat' (first|exact trivial|refine ⟨⟨_,rfl,?_⟩,?_⟩|fail));all_goals try exact yae _)
  refine Wk.of_eq (congrArg (AV.int _) ?_)
  unfold sumL
  rw [zda _ _ _ 0 _ (by omega)]
 ·(repeat' ((conv=>whnf);(first|refine zat (by omega) ?_|refine EqN.quo (by omega) ?_|refine yaf (by omega) ?_|fail)));conv=>whnf
  refine ya1 trivial (Wk.of_eq (congrArg (AV.int _) ?_))
  rw [yb3 (by omega)]
theorem ways_c (H:Heap):VDet Tryz.prog 60 [] H (.sl none 3 [.int .u8 1,.clo (.func 76) [] [],.int .u8 2,.clo (.func 78) [] [],.int .u8 3,.clo (.func 79) [] []]):=by
 refine zap Tryz.E0 zad Tryz.func60 (by kernel_rfl) rfl (ybv rfl) rfl fun hcl hbl=>?_
 (repeat' ((conv=>whnf);(first|refine OrN.l ?_|fail)));conv=>whnf
 exact ya1 (by simp [below,zac,zgm]) (wk_sx _ _)
def wayF (c:Int) (l:List Int):Int:=if c=1 then maxL l else if c=2 then l.getD (l.length-1) 0 else sumL l / l.length
def zdc (s:Sch) (l:List Wrk):Int×Int :=
 if zbv s=true∧l.any (fun w=>!zbr w)=false then
  if 100<l.length then (0,5) else if l.length=0 then (0,0) else (wayF s.cnt (l.map fun w=>(markF s w).points),0)
 else (0,2)
theorem points_bd {s:Sch} {w:Wrk} (hs:zbv s=true) (hw:zbr w=true):0≤(markF s w).points∧(markF s w).points≤10000:=by
 obtain ⟨s1,s2,s3,s4,s5,s6,s7,s8⟩:=zca hs
 obtain ⟨w1,w2,w3,w4⟩:=zee hw
 have b1:=base_bd s1 s3 w1
 have b2:=late_bd (w:=w) s8
 have b3:=retry_bd s4.1 w3.1
 have b4:=hints_bd s5.1 w4.1
 have m1:=zg4 (M:=10000) (b:=100-lateF s w) (a:=baseF s w) (by omega) (by omega)
 have m2:=zg4 (b:=100-zd3 s w) m1 (by omega)
 have m3:=zg4 (b:=100-zea s w) m2 (by omega)
 simp only [markF]
 omega
theorem total_c (s:Sch) (l:List Wrk) (hl:l.length≤4611686018427387904) (tok:Option Nat) (H:Heap):VDet Tryz.prog 34 [.agg s.cells,.sl tok l.length (l.flatMap Wrk.cells)] H (.tup [.int .i64 (zdc s l).1,.int .i64 (zdc s l).2]):=by
 by_cases h1:zbv s=true
 case neg =>
  have h1':zbv s=false:=by simpa using h1
  rw [show zdc s l=(0,2) from if_neg (fun h=>h1 h.1)]
  refine zap Tryz.E0 zad Tryz.func34 (by kernel_rfl) rfl (ybv rfl) rfl fun hcl hbl=>?_
  (repeat' ((conv=>whnf);(first|(refine yai ?_;first|refine yas ?_|refine yau (by assumption) ?_|fail)|refine yab _ (zdi s _) ?_|fail)));conv=>whnf
  exact ya1 (by simp [below,zac]) (yae _)
 cases h2:l.any (fun w=>!zbr w) with
 | true =>
   rw [show zdc s l=(0,2) from if_neg (fun h=>by rw [h2] at h;cases h.2)]
   refine zap Tryz.E0 zad Tryz.func34 (by kernel_rfl) rfl (ybv rfl) rfl fun hcl hbl=>?_
   (repeat' ((conv=>whnf);(first|(refine yai ?_;first|refine yas ?_|refine yaq (by assumption) ?_|fail)|(refine ybi ?_;first|refine yab _ (zdi s _) ?_|refine yab _ (zdq l hl tok 57 [] _ total1_c _) ?_|fail)|fail)));conv=>whnf
   exact ya1 (by simp [below,zac]) (yae _)
 | false =>
 rw [show zdc s l=(if 100<l.length then (0,5) else if l.length=0 then (0,0) else (wayF s.cnt (l.map fun w=>(markF s w).points),0)) from if_pos ⟨h1,h2⟩]
 by_cases h3:100<l.length
 ·rw [if_pos h3]
  refine zap Tryz.E0 zad Tryz.func34 (by kernel_rfl) rfl (ybv rfl) rfl fun hcl hbl=>?_
  (repeat' ((conv=>whnf);(first|(refine yai ?_;first|refine yas ?_|refine yar (by omega) ?_|refine yaq (by assumption) ?_|refine yau (by assumption) ?_|fail)|(refine ybi ?_;first|refine yab _ (zdi s _) ?_|refine yab _ (zdq l hl tok 57 [] _ total1_c _) ?_|fail)|fail)));conv=>whnf
  exact ya1 (by simp [below,zac]) (yae _)
 rw [if_neg h3]
 by_cases h4:l.length=0
 ·rw [if_pos h4]
  refine zap Tryz.E0 zad Tryz.func34 (by kernel_rfl) rfl (ybv rfl) rfl fun hcl hbl=>?_
  (repeat' ((conv=>whnf);(first|(refine yai ?_;first|refine yas ?_|refine yar (by omega) ?_|refine zat (by omega) ?_|refine yaq (by assumption) ?_|refine yau (by assumption) ?_|fail)|(refine ybi ?_;first|refine yab _ (zdi s _) ?_|refine yab _ (zdq l hl tok 57 [] _ total1_c _) ?_|fail)|fail)));conv=>whnf
  exact ya1 (by simp [below,zac]) (yae _)
 rw [if_neg h4]
 have hw:∀ k,k<l.length→zbr (l.getD k ⟨0,0,0,0⟩)=true:=by
  intro k hk
  rw [List.any_eq_false] at h2
  have:=h2 (l.getD k ⟨0,0,0,0⟩) (by simp [yal hk])
  simpa using this
 refine zap Tryz.E0 zad Tryz.func34 (by kernel_rfl) rfl (ybv rfl) rfl fun hcl hbl=>?_
 (repeat' ((conv=>whnf);(first|(refine yai ?_;first|refine yas ?_|refine zat (by omega) ?_|refine yaq (by assumption) ?_|refine yau (by assumption) ?_|fail)|(refine ybi ?_;first|refine yab _ (zdi s _) ?_|refine yab _ (zdq l hl tok 57 [] _ total1_c _) ?_|fail)|fail)));conv=>whnf
 refine LoopN.tok 6 3 1 rfl rfl rfl ?_
 refine zbg Tryz.E0 zad (σ:=Nat×List AV) (fun k=>k.1≤l.length∧k.2=((l.take k.1).map fun w=>(markF s w).points).flatMap encI) (fun k=>l.length-k.1) (fun k=>[(6,.v (.sl (some (H.length+1)) k.1 k.2)),(26,.v (.int .i64 k.1))]) (fun k=>[.box 36 s.cells,.tok 3 1 k.2.length]) _ (0,[]) rfl hcl [2,24,25] rfl ⟨yah _,rfl⟩ ⟨⟨_,rfl,yae _⟩,⟨_,rfl,yae _⟩,trivial⟩ rfl (fun _ _=>rfl) ?_
 rintro ⟨k,pl⟩ ⟨hk,hpl⟩
 simp only at hk hpl
 by_cases hlt:k<l.length
 ·have hb:∀ n,zac n (pl++[.int .i64 (markF s (l.getD k ⟨0,0,0,0⟩)).points]):=by
    intro n
    rw [hpl,zaq]
    exact ⟨encI_below _ _,by simp [zac,below]⟩
  (repeat' ((conv=>whnf);(first|refine yar (by omega) ?_|(refine zao _ _ Cst.h Cst.h ?_ ?_;· omega)|(refine yaf ?_ ?_;· first|omega|exact yaa _ _|fail)|refine yab _ (mark_c s _ h1 (hw k hlt) _) ?_|refine zbt ⟨0,0,0,0⟩ k rfl (by omega) (fun _=>rfl) ?_|refine yaf ⟨rfl,rfl,rfl,by dsimp only;omega,by simp only [maxLen];omega⟩ ?_|refine yb6 _ rfl ?_|fail)));conv=>whnf
  refine ⟨⟨(k+1,pl++[.int .i64 (markF s (l.getD k ⟨0,0,0,0⟩)).points]),⟨by simp only;omega,?_⟩,by simp only;omega,⟨⟨_,rfl,yae _⟩,⟨_,rfl,yae _⟩,trivial⟩,.inl ⟨rfl,rfl⟩,rfl,_,rfl,.inr ⟨⟨⟨fun t h=>?_,hb _⟩,trivial,trivial⟩,by simp [za5,Blk.below,Sch.cells,zac,below,zaf]⟩⟩⟩
  ·simp only
   rw [← zg6 _ _ ⟨0,0,0,0⟩ _ hlt,ybt,← hpl]
   rfl
  ·cases h
   omega
 ·have hk':k=l.length:=by omega
  subst hk'
  rw [ya2] at hpl
  generalize hps:(l.map fun w=>(markF s w).points)=ps at hpl ⊢
  have hpn:ps.length=l.length:=by rw [← hps];simp
  have hpb:∀ x∈ps,0≤x∧x≤10000:=by
   intro x hx
   rw [← hps] at hx
   obtain ⟨w,hwm,rfl⟩:=ybq.1 hx
   rw [List.any_eq_false] at h2
   exact points_bd h1 (by have:=h2 w hwm;simpa using this)
  subst hpl
  rw [← hpn]
  obtain ⟨-,-,-,-,-,s6,-⟩:=zca h1
  (repeat' ((conv=>whnf);(first|refine zat (by omega) ?_|refine yab _ (ways_c _) ?_|fail)));conv=>whnf
  refine ybd Tryz.E0 zad 4 rfl ?_
  (repeat' ((conv=>whnf);(first|(refine yai ?_;first|refine yaq rfl ?_|refine yar (by omega) ?_|refine zbq (fun _=>?_) (fun _=>?_)|fail)|(refine zao _ _ Cst.h Cst.h ?_ ?_;· omega)|(refine yaf ?_ ?_;· first|omega|exact yaa _ _|fail)|(refine ybi ?_;first|refine yab _ (ways1_c ps (by omega) (by omega) _ _) ?_|refine yab _ (ways2_c ps (by omega) (by omega) _ _) ?_|refine yab _ (ways3_c ps (by omega) (by omega) hpb _ _) ?_|fail)|refine SegN.mk _ (seg_rfl rfl) ?_|fail)));all_goals (conv=>whnf)
  all_goals refine ya1 (by simp [below,zac]) (Wk.of_eq ?_)
  all_goals simp only [AV.tup.injEq,List.cons.injEq,AV.int.injEq,true_and,and_true]
  all_goals unfold wayF
  ·rw [if_pos (by omega)]
  ·rw [if_neg (by omega),if_pos (by omega)]
  ·rw [if_neg (by omega),if_neg (by omega)]
def ltS (a b:ByteArray):Bool:=Op.bytesLess a.toList b.toList
def eqS (a b:ByteArray):Bool:=a.toList==b.toList
theorem nanS_c (a:ByteArray) (H:Heap):VDet Tryz.prog 63 [.str a] H (.bool false):=by
 refine zap Tryz.E0 zad Tryz.func63 (by kernel_rfl) rfl (ybv rfl) rfl fun hcl hbl=>?_
 (repeat' ((conv=>whnf);(first|refine zab [] ?_|fail)));all_goals (conv=>whnf)
 exact ya1 trivial (Wk.of_eq (by simp))
def cmpS (a b:ByteArray):Int:=if ltS a b then -1 else if eqS a b then 0 else 1
theorem cmpS_c (a b:ByteArray) (H:Heap):VDet Tryz.prog 38 [.str a,.str b] H (.int .i64 (cmpS a b)):=by
 refine zap Tryz.E0 zad Tryz.func38 (by kernel_rfl) rfl (ybv rfl) rfl fun hcl hbl=>?_
 (repeat' ((conv=>whnf);(first|(refine yai ?_;first|refine yas ?_|refine yau rfl ?_|(refine IfN.mk ?_ ?_ <;> intro _)|fail)|refine yab _ (nanS_c _ _) ?_|refine zab [] ?_|fail)));all_goals (conv=>whnf)
 all_goals
  refine ya1 trivial (Wk.of_eq (congrArg (AV.int .i64) ?_))
  unfold cmpS ltS eqS
  simp_all
def zcg (a:ByteArray):Bool:=decide (1≤a.size)&&decide (a.size≤16)
theorem zbo (a:ByteArray) (H:Heap):VDet Tryz.prog 41 [.str a] H (.bool (zcg a)):=by
 refine zap Tryz.E0 zad Tryz.func41 (by kernel_rfl) rfl (ybv rfl) rfl fun hcl hbl=>?_
 (repeat' ((conv=>whnf);(first|refine zbq (fun _=>?_) (fun _=>?_)|refine zab [] ?_|fail)));all_goals (conv=>whnf)
 all_goals refine ya1 trivial (Wk.of_eq (congrArg AV.bool ?_))
 ·have h:1≤a.size:=by omega
  simp [zcg,h]
  omega
 ·have h:decide (1≤a.size)=false:=decide_eq_false (by omega)
  rw [zcg,h]
  rfl
def isDay (n:Int):Bool:=decide (0≤n)&&decide (n≤1048576)
theorem zbh (n:Int) (H:Heap):VDet Tryz.prog 30 [.int .i64 n] H (.bool (isDay n)):=by
 refine zap Tryz.E0 zad Tryz.func30 (by kernel_rfl) rfl (ybv rfl) rfl fun hcl hbl=>?_
 (repeat' ((conv=>whnf);(first|refine zbq (fun _=>?_) (fun _=>?_)|refine zab [] ?_|fail)));all_goals (conv=>whnf)
 all_goals refine ya1 trivial (Wk.of_eq (congrArg AV.bool ?_))
 ·simp_all [isDay]
 ·have h:n<0:=by omega
  have:decide (0≤n)=false:=decide_eq_false (by omega)
  simp [isDay,this]
structure Ver where
 at_:Int
 sch:Sch
def Ver.cells (v:Ver):List AV:=[.int .i64 v.at_,.int .i64 v.sch.pts,.int .i64 v.sch.part,.sl none v.sch.lates.length (v.sch.lates.flatMap encP),.int .i64 v.sch.att,.int .i64 v.sch.rty,.int .i64 v.sch.hnt,.int .u8 v.sch.cnt]
structure Ser where
 name:ByteArray
 vers:List Ver
def Ser.cells (s:Ser):List AV:=[.str s.name,.sl none s.vers.length (s.vers.flatMap Ver.cells)]
structure Ent where
 stu:ByteArray
 exe:ByteArray
 day:Int
 work:Wrk
def Ent.cells (e:Ent):List AV:=[.str e.stu,.str e.exe,.int .i64 e.day,.int .i64 e.work.prog,.int .i64 e.work.days,.int .i64 e.work.att,.int .i64 e.work.hints]
structure Bk where
 ser:List Ser
 ent:List Ent
def Bk.cells (b:Bk):List AV:=[.sl none b.ser.length (b.ser.flatMap Ser.cells),.sl none b.ent.length (b.ent.flatMap Ent.cells)]
theorem zal (n:Nat) (v:Ver):zac n v.cells:=by simp [Ver.cells,zac,below,zaf]
theorem zah (n:Nat) (l:List Ver):zac n (l.flatMap Ver.cells):=zcn _ (zal n)
theorem zak (n:Nat) (s:Ser):zac n s.cells:=by simp [Ser.cells,zac,below,zah]
theorem zae (n:Nat) (l:List Ser):zac n (l.flatMap Ser.cells):=zcn _ (zak n)
theorem zam (n:Nat) (e:Ent):zac n e.cells:=by simp [Ent.cells,zac,below]
theorem zag (n:Nat) (l:List Ent):zac n (l.flatMap Ent.cells):=zcn _ (zam n)
def sch0:Sch:=⟨0,0,0,0,0,0,[]⟩
def ver0:Ver:=⟨0,sch0⟩
def ser0:Ser:=⟨.empty,[]⟩
def wrk0:Wrk:=⟨0,0,0,0⟩
def ent0:Ent:=⟨.empty,.empty,0,wrk0⟩
theorem zbf (v:Ver):v.cells.length=8:=rfl
theorem zaz (s:Ser):s.cells.length=2:=rfl
theorem za0 (e:Ent):e.cells.length=7:=rfl
abbrev lpB (n0:Nat) (bk:RE) (N:FN) (ps:Array Tmp) (assign body:Code) (st:LoopState) (jp:Option Code):Blk:=.loop st jp (trE n0 bk) ⟨N.n,ps,assign,body⟩
abbrev rndW (n0 k:Nat) (bk:RE) (N:FN) (ps:Array Tmp) (assign body:Code) (H:Heap) (vs1:List AV) (R:AV→Heap→Prop):Prop :=
 wpC Tryz.prog Tryz.kn Tryz.T ⟨N.n,some (n0+k)⟩ H.length assign (fun e top bot base k' loc=>match e with
   | .normal=>RndB Tryz.prog Tryz.kn Tryz.T H (n0+k) (trE n0 bk) ⟨N.n,ps,assign,body⟩ R top bot base k' loc
   | _=>False) (parRE ps.toList vs1 (reB n0 bk)) [] H 0 []
structure Bwd (Y:Nat→(AV→Heap→Prop)→Prop) (n m:Nat) (H He:Heap):Prop where
 le:m≤n
 go:∀ j,m≤j→j<n→Y j (fun r H'=>r=.bool true∧H'=H++[])
 fin:(m=0∧He=H)∨∃ j,m=j+1∧Y j (fun r H'=>r=.bool false∧H'=He++[])
theorem bwdS_c (l:List Ser) (hl:l.length≤4611686018427387904) (m i ip:Nat) (H He:Heap) (hcl:zek H) (hip:H[ip]? = some (.box 22 [.sl none l.length (l.flatMap Ser.cells)])) (hlen:He.length=H.length)
  (hlow:∀ (j:Nat) B,He[j]? = some B→H[j]? = some B∨B.below H.length)
  (hb:Bwd (fun j R=>VYield Tryz.prog i [.int .i64 j,.agg (l.getD j ser0).cells] (H++[]) R) l.length m H He) :
  VCall Tryz.prog 102 [.clo (.yield i) [] [],.ptr ip 0] H (fun _ H'=>H'=He):=by
 obtain ⟨hm,hgo,hfin⟩:=hb
 refine zfe Tryz.E0 zad Tryz.func102 (by kernel_rfl) rfl (ybv rfl) rfl fun hcl hbl=>?_
 (repeat' ((conv=>whnf);(first|refine ycf (by omega) ?_|refine yb9 _ (by (repeat' (first|assumption|exact zco _ rfl|exact zbk rfl|refine zey (B':=?_) ?_|refine zb2 ?_|fail))) ?_|refine zab [] ?_|fail)));all_goals (conv=>whnf)
 refine loop_B Tryz.E0 zad (σ:=Nat) (fun j=>m≤j∧j≤l.length) (fun j=>j) (fun j=>[(3,.v (.int .i64 (j-1:Int)))]) (fun _=>H) (fun _=>[]) _ l.length (fun j hj=>rfl) (fun j hj=>hcl) [0,1] rfl ⟨hm,yax _⟩ ⟨⟨_,rfl,yae _⟩,trivial⟩ rfl rfl (fun _ _=>rfl) ?_
 rintro j ⟨hj1,hj2⟩
 rcases yag m j with hj|hj
 ·obtain ⟨q,rfl⟩:∃ q,j=q+1:=⟨j-1,by omega⟩
  have hy:=hgo q (by omega) (by omega)
  rw [show (q:Int)=((q+1:Nat):Int)-1 by omega] at hy
  (repeat' ((conv=>whnf);(first|(refine yai ?_;first|refine yas ?_|refine yaq rfl ?_|refine yar (by omega) ?_|fail)|refine ycf (by omega) ?_|(refine yaf ?_ ?_;· first|kernel_rfl|omega|exact yaa _ _|(simp;done)|(simp;omega)|exact trivial|assumption|fail)|refine zbt ser0 q (by omega) (by omega) zaz ?_|refine CallN.fix _ _ _ _ hy rfl rfl ?_|refine yb9 _ (by (repeat' (first|assumption|exact zco _ rfl|exact zbk rfl|refine zey (B':=?_) ?_|refine zb2 ?_|fail))) ?_|refine zab [] ?_|fail)));all_goals (conv=>whnf)
  (refine ⟨⟨q,⟨by omega,by omega⟩,by omega,?_,.inl ⟨rfl,rfl⟩,rfl,_,rfl,?_⟩⟩;rotate_left 1;(first|exact .inl rfl|exact .inr ⟨by simp [zau,below,zac,tr,and_self],by simp [za5,Blk.below,zac,below,and_self]⟩|fail);(repeat' (first|exact trivial|refine ⟨⟨_,rfl,?_⟩,?_⟩|fail));all_goals try (first|exact yae _|exact Wk.of_eq (congrArg (AV.int _) (by omega))|fail))
 ·have hjm:j=m:=by omega
  subst hjm
  rcases hfin with ⟨rfl,rfl⟩|⟨q,rfl,hy⟩
  ·(repeat' ((conv=>whnf);(first|refine yau rfl ?_|refine zab [] ?_|fail)));all_goals (conv=>whnf)
   exact .cut rfl (fun j B hB=>.inl hB) ⟨_,_,.refl _,yae _,by simp [below,zac],rfl⟩
  ·rw [show (q:Int)=((q+1:Nat):Int)-1 by omega] at hy
   (repeat' ((conv=>whnf);(first|(refine yai ?_;first|refine yas ?_|refine yau rfl ?_|refine yar (by omega) ?_|fail)|(refine yaf ?_ ?_;· first|kernel_rfl|omega|exact yaa _ _|(simp;done)|(simp;omega)|exact trivial|assumption|fail)|refine zbt ser0 q (by omega) (by omega) zaz ?_|refine CallN.fix _ _ _ _ hy hlen rfl ?_|refine yb9 _ (by (repeat' (first|assumption|exact zco _ rfl|exact zbk rfl|refine zey (B':=?_) ?_|refine zb2 ?_|fail))) ?_|refine zab [] ?_|fail)));all_goals (conv=>whnf)
   exact .cut hlen hlow ⟨_,_,.refl _,yae _,by simp [below,zac],rfl⟩
theorem bwdV_c (l:List Ver) (hl:l.length≤4611686018427387904) (m i ip:Nat) (H He:Heap) (hcl:zek H) (hip:H[ip]? = some (.box 67 [.sl none l.length (l.flatMap Ver.cells)])) (hlen:He.length=H.length)
  (hlow:∀ (j:Nat) B,He[j]? = some B→H[j]? = some B∨B.below H.length)
  (hb:Bwd (fun j R=>VYield Tryz.prog i [.int .i64 j,.agg (l.getD j ver0).cells] (H++[]) R) l.length m H He) :
  VCall Tryz.prog 92 [.clo (.yield i) [] [],.ptr ip 0] H (fun _ H'=>H'=He):=by
 obtain ⟨hm,hgo,hfin⟩:=hb
 refine zfe Tryz.E0 zad Tryz.func92 (by kernel_rfl) rfl (ybv rfl) rfl fun hcl hbl=>?_
 (repeat' ((conv=>whnf);(first|refine ycf (by omega) ?_|refine yb9 _ (by (repeat' (first|assumption|exact zco _ rfl|exact zbk rfl|refine zey (B':=?_) ?_|refine zb2 ?_|fail))) ?_|refine zab [] ?_|fail)));all_goals (conv=>whnf)
 refine loop_B Tryz.E0 zad (σ:=Nat) (fun j=>m≤j∧j≤l.length) (fun j=>j) (fun j=>[(3,.v (.int .i64 (j-1:Int)))]) (fun _=>H) (fun _=>[]) _ l.length (fun j hj=>rfl) (fun j hj=>hcl) [0,1] rfl ⟨hm,yax _⟩ ⟨⟨_,rfl,yae _⟩,trivial⟩ rfl rfl (fun _ _=>rfl) ?_
 rintro j ⟨hj1,hj2⟩
 rcases yag m j with hj|hj
 ·obtain ⟨q,rfl⟩:∃ q,j=q+1:=⟨j-1,by omega⟩
  have hy:=hgo q (by omega) (by omega)
  rw [show (q:Int)=((q+1:Nat):Int)-1 by omega] at hy
  (repeat' ((conv=>whnf);(first|(refine yai ?_;first|refine yas ?_|refine yaq rfl ?_|refine yar (by omega) ?_|fail)|refine ycf (by omega) ?_|(refine yaf ?_ ?_;· first|kernel_rfl|omega|exact yaa _ _|(simp;done)|(simp;omega)|exact trivial|assumption|fail)|refine zbt ver0 q (by omega) (by omega) zbf ?_|refine CallN.fix _ _ _ _ hy rfl rfl ?_|refine yb9 _ (by (repeat' (first|assumption|exact zco _ rfl|exact zbk rfl|refine zey (B':=?_) ?_|refine zb2 ?_|fail))) ?_|refine zab [] ?_|fail)));all_goals (conv=>whnf)
  (refine ⟨⟨q,⟨by omega,by omega⟩,by omega,?_,.inl ⟨rfl,rfl⟩,rfl,_,rfl,?_⟩⟩;rotate_left 1;(first|exact .inl rfl|exact .inr ⟨by simp [zau,below,zac,tr,and_self],by simp [za5,Blk.below,zac,below,and_self]⟩|fail);(repeat' (first|exact trivial|refine ⟨⟨_,rfl,?_⟩,?_⟩|fail));all_goals try (first|exact yae _|exact Wk.of_eq (congrArg (AV.int _) (by omega))|fail))
 ·have hjm:j=m:=by omega
  subst hjm
  rcases hfin with ⟨rfl,rfl⟩|⟨q,rfl,hy⟩
  ·(repeat' ((conv=>whnf);(first|refine yau rfl ?_|refine zab [] ?_|fail)));all_goals (conv=>whnf)
   exact .cut rfl (fun j B hB=>.inl hB) ⟨_,_,.refl _,yae _,by simp [below,zac],rfl⟩
  ·rw [show (q:Int)=((q+1:Nat):Int)-1 by omega] at hy
   (repeat' ((conv=>whnf);(first|(refine yai ?_;first|refine yas ?_|refine yau rfl ?_|refine yar (by omega) ?_|fail)|(refine yaf ?_ ?_;· first|kernel_rfl|omega|exact yaa _ _|(simp;done)|(simp;omega)|exact trivial|assumption|fail)|refine zbt ver0 q (by omega) (by omega) zbf ?_|refine CallN.fix _ _ _ _ hy hlen rfl ?_|refine yb9 _ (by (repeat' (first|assumption|exact zco _ rfl|exact zbk rfl|refine zey (B':=?_) ?_|refine zb2 ?_|fail))) ?_|refine zab [] ?_|fail)));all_goals (conv=>whnf)
   exact .cut hlen hlow ⟨_,_,.refl _,yae _,by simp [below,zac],rfl⟩
theorem ze3 {base loc X:Heap} {j:Nat} {B B':Blk} (h:lget loc j=some B'):((base++loc)++X).set (base.length+j) B=(base++loc.set j B)++X:=by
 have hj:j<loc.length:=by
  rw [za9] at h
  exact (yac.1 h).1
 rw [ycm _ _ (by simp;omega),zb8]
theorem get_lo3 {base A Y:Heap} {j:Nat} (h:j<base.length):((base++A)++Y)[j]? = base[j]? := by
 rw [ybe,yaj h]
theorem get_hi3 {base A Y:Heap} {j n:Nat} (hn:base.length+A.length=n) (h:n≤j):((base++A)++Y)[j]? = Y[j-n]? := by
 rw [yam (by rw [ya5];omega),ya5,hn]
theorem rnd_end {base l l' Y:Heap} {k:Nat} {bk:RE} {N:FN} {ps:Array Tmp} {assign body:Code} {e:Exit} {jp:Option Code} {jp':Option Code} {b:Bool} {st:LoopState} (hx:RndEx e jp' b st) (hk:l.length=k) (hk':l'.length=k) (hb:∀ B∈l',B.below (base.length+(k+1))) (bbk:zau base.length (base.length+(k+1)) bk) :
  RndEnd ((base++(l++[lpB base.length bk N ps assign body .ready none]))++Y) (base.length+k) (trE base.length bk) ⟨N.n,ps,assign,body⟩ (fun r H'=>r=.bool b∧H'=(base++(l'++[lpB base.length bk N ps assign body st jp']))++Y) e ((base++(l'++[lpB base.length bk N ps assign body .busy jp]))++Y):=by
 subst hk
 have hg:lget (l'++[lpB base.length bk N ps assign body .busy jp]) l.length=some (lpB base.length bk N ps assign body .busy jp):=by
  rw [za9,yam (by omega),hk',ycr]
  rfl
 refine ⟨⟨jp,jp',b,st,_,hx,zco Y hg,ze3 hg,by simp [hk'],fun j B hj=>?_,rfl,?_⟩⟩
 ·have hs:(l'++[lpB base.length bk N ps assign body .busy jp]).set l.length (lpB base.length bk N ps assign body st jp')=l'++[lpB base.length bk N ps assign body st jp']:=by
    rw [yb0 _ _ (by omega),hk',ycr]
    rfl
  rw [hs] at hj
  rcases yag j base.length with h1|h1
  ·left
   exact (get_lo3 h1).trans ((get_lo3 h1).symm.trans hj)
  ·rcases yag j (base.length+(l.length+1)) with h2|h2
   ·right
    rw [yaj (by simp [hk'];omega),yam h1] at hj
    have hm:=ycj hj
    have q:B.below (base.length+(l.length+1)):=by
     rcases ybh.1 hm with h|h
     ·exact hb B h
     ·simp only [yaz] at h
      subst h
      exact get_below bbk
    exact Blk.below_mono (by simp only [ya5,List.length_singleton];omega) q
   ·left
    exact (get_hi3 (by simp) h2).trans ((get_hi3 (by simp [hk']) h2).symm.trans hj)
 ·have hs:(l'++[lpB base.length bk N ps assign body .busy jp]).set l.length (lpB base.length bk N ps assign body st jp')=l'++[lpB base.length bk N ps assign body st jp']:=by
    rw [yb0 _ _ (by omega),hk',ycr]
    rfl
  rw [hs]
structure BwdIt {α:Type} (F:FuncId) (bt:TypeId) (enc:α→List AV) (d:α) (l:List α):Prop where
 it:∀ (m i ip:Nat) (H He:Heap),zek H→H[ip]? = some (.box bt [.sl none l.length (l.flatMap enc)])→He.length=H.length→(∀ (j:Nat) B,He[j]? = some B→H[j]? = some B∨B.below H.length) →
  Bwd (fun j R=>VYield Tryz.prog i [.int .i64 j,.agg (enc (l.getD j d))] (H++[]) R) l.length m H He→VCall Tryz.prog F [.clo (.yield i) [] [],.ptr ip 0] H (fun _ H'=>H'=He)
theorem range_bwd {α:Type} {F:FuncId} {bt:TypeId} {enc:α→List AV} {d:α} {l:List α} (hit:BwdIt F bt enc d l) {N:FN} {n0:Nat} {ps:Array Tmp} {assign body:Code} {Q:QR} {top bot:RE} {base:Heap} {k:Nat} {loc:Heap}
  (hbase:base.length=n0) (hcl:zek base) (hN:N.r=none) (ts:List Nat) (bk:RE) (hbk:pickO ts top bot=some bk)
  (hps:∀ p∈ps.toList,p<N.n) (hps1:ps.size=2) (m:Nat) (hm:m≤l.length) (ip:Nat)
  (lens:loc.length=k) (hip:lget loc ip=some (.box bt [.sl none l.length (l.flatMap enc)]))
  (bls:∀ B∈loc,B.below (n0+(k+1))) (bbk:zau n0 (n0+(k+1)) bk)
  (hyt:∀ j,m≤j→j<l.length→rndW n0 k bk N ps assign body (base++(loc++[lpB n0 bk N ps assign body .ready none])) [.int .i64 j,.agg (enc (l.getD j d))] (fun r H'=>r=.bool true∧H'=base++(loc++[lpB n0 bk N ps assign body .ready none])))
  (hfin:(m=0∧jumpN Q top bot base (k+1) (loc++[.dead]) none)∨∃ j le jp,m=j+1∧le.length=k∧(∀ B∈le,B.below (n0+(k+1))) ∧
    rndW n0 k bk N ps assign body (base++(loc++[lpB n0 bk N ps assign body .ready none])) [.int .i64 j,.agg (enc (l.getD j d))] (fun r H'=>r=.bool false∧H'=base++(le++[lpB n0 bk N ps assign body .done (some jp)]))∧jumpN Q top bot base (k+1) (le++[.dead]) (some jp)) :
  RangeN Tryz.prog N n0 F [] [.ptr (n0+ip) 0] ps assign body Q top bot base k loc:=by
 subst hbase
 have hloopb:∀ st jp,(lpB base.length bk N ps assign body st jp).below (base.length+(k+1)):=fun _ _=>get_below bbk
 have hlen:∀ B,(base++(loc++[B])).length=base.length+(k+1):=fun B=>by simp [lens]
 have hiK:(base++(loc++[lpB base.length bk N ps assign body .ready none]))[base.length+k]? = some (lpB base.length bk N ps assign body .ready none):=by
  rw [yam (by omega),ybk,yam (by rw [lens];exact yax _),lens,ycr]
  rfl
 have hyY:∀ (j:Nat) R,rndW base.length k bk N ps assign body (base++(loc++[lpB base.length bk N ps assign body .ready none])) [.int .i64 j,.agg (enc (l.getD j d))] R→VYield Tryz.prog (base.length+k) [.int .i64 j,.agg (enc (l.getD j d))] (base++(loc++[lpB base.length bk N ps assign body .ready none])) R:=fun j R h =>
  round_R Tryz.E0 zad hiK hps (by simp [hps1]) h
 have hc0:zek (base++(loc++[lpB base.length bk N ps assign body .ready none])):=zex hcl fun B hB=>by
  rw [hlen]
  rcases ybh.1 hB with h|h
  ·exact bls B h
  ·simp only [yaz] at h;subst h;exact hloopb _ _
 have hipH:(base++(loc++[lpB base.length bk N ps assign body .ready none]))[base.length+ip]? = some (.box bt [.sl none l.length (l.flatMap enc)]):=zbk (by rw [za9];rw [yaj (yac.1 (za9 ..▸hip)).1];exact za9 ..▸hip)
 rcases hfin with ⟨rfl,hQ⟩|⟨j,le,jp,rfl,lene,ble,hyf,hQ⟩
 ·have h1:=hit.it 0 (base.length+k) (base.length+ip) (base++(loc++[lpB base.length bk N ps assign body .ready none])) (base++(loc++[lpB base.length bk N ps assign body .ready none])) hc0 hipH rfl (fun j B h=>.inl h)
    ⟨hm,fun j h1 h2=>by simp only [yat];exact hyY j _ (hyt j h1 h2),.inl ⟨rfl,rfl⟩⟩
  refine .mk ⟨(fun i hi=>by rw [hN] at hi;cases hi),ts,bk,(fun _ H'=>H'=base++(loc++[lpB base.length bk N ps assign body .ready none])),hbk,?_,?_⟩
  ·rw [ybe]
   exact h1
  ·rintro r H' rfl
   refine ⟨base,k+1,loc++[lpB base.length bk N ps assign body .ready none],.ready,none,loc++[.dead],rfl,by simp [lens],rfl,?_,by simp,?_,hQ⟩
   ·rw [za9,yam (by omega),lens,ycr];rfl
   ·rw [zdx (by simp [lens])]
    rw [yb0 _ _ (by omega),lens,ycr]
    rfl
 ·have h1:=hit.it (j+1) (base.length+k) (base.length+ip) (base++(loc++[lpB base.length bk N ps assign body .ready none])) (base++(le++[lpB base.length bk N ps assign body .done (some jp)])) hc0 hipH (by simp [lens,lene]) (low_loc fun B hB=>by
    rw [hlen]
    rcases ybh.1 hB with h|h
    ·exact ble B h
    ·simp only [yaz] at h;subst h;exact hloopb _ _)
    ⟨hm,fun j h1 h2=>by simp only [yat];exact hyY j _ (hyt j h1 h2),.inr ⟨j,rfl,by simp only [yat];exact hyY j _ hyf⟩⟩
  refine .mk ⟨(fun i hi=>by rw [hN] at hi;cases hi),ts,bk,(fun _ H'=>H'=base++(le++[lpB base.length bk N ps assign body .done (some jp)])),hbk,?_,?_⟩
  ·rw [ybe]
   exact h1
  ·rintro r H' rfl
   refine ⟨base,k+1,le++[lpB base.length bk N ps assign body .done (some jp)],.done,some jp,le++[.dead],rfl,by simp [lene],rfl,?_,by simp,?_,hQ⟩
   ·rw [za9,yam (by omega),lene,ycr];rfl
   ·rw [zdx (by simp [lene])]
    rw [yb0 _ _ (by omega),lene,ycr]
    rfl
def lastF {α:Type} (p:α→Bool):List α→Option α
 | []=>none
 | x::l=>match lastF p l with
   | some y=>some y
   | none=>if p x=true then some x else none
theorem lastF_none {α:Type} {p:α→Bool}:∀ {l:List α},(∀ x∈l,p x=false)→lastF p l=none
 | [],_=>rfl
 | x::l,h=>by
   unfold lastF
   rw [lastF_none fun y hy=>h y (ya4 _ hy)]
   simp [h x (ybc)]
theorem lastF_app {α:Type} (p:α→Bool):∀ (l m:List α),lastF p (l++m)=match lastF p m with
  | some y=>some y
  | none=>lastF p l
 | [],m=>by cases h:lastF p m <;> simp [lastF,h]
 | x::l,m=>by
   simp only [yci,lastF,lastF_app p l m]
   cases lastF p m <;> rfl
theorem lastF_at {α:Type} (p:α→Bool) (d:α) (l:List α):∃ m,m≤l.length∧(∀ j,m≤j→j<l.length→p (l.getD j d)=false)∧((m=0∧lastF p l=none)∨∃ j,m=j+1∧p (l.getD j d)=true∧lastF p l=some (l.getD j d)):=by
 induction l with
 | nil=>exact ⟨0,yax _,fun j _ h=>absurd h (Nat.not_lt_zero _),.inl ⟨rfl,rfl⟩⟩
 | cons x l ih =>
   obtain ⟨m,h1,h2,h3⟩:=ih
   rcases h3 with ⟨rfl,h3⟩|⟨j,rfl,h3,h4⟩
   ·cases hx:p x with
    | true=>exact ⟨1,by simp,fun j h4 h5=>by
       obtain ⟨q,rfl⟩:∃ q,j=q+1:=⟨j-1,by omega⟩
       exact h2 q (yah _) (by simpa using h5),.inr ⟨0,rfl,hx,by simp [lastF,h3,hx]⟩⟩
    | false=>exact ⟨0,yah _,fun j _ h5=>by
       cases j with
       | zero=>exact hx
       | succ j=>exact h2 j (yah _) (by simpa using h5),.inl ⟨rfl,by simp [lastF,h3,hx]⟩⟩
   ·exact ⟨j+2,by simpa using h1,fun q h5 h6=>by
      obtain ⟨r,rfl⟩:∃ r,q=r+1:=⟨q-1,by omega⟩
      exact h2 r (by omega) (by simpa using h6),.inr ⟨j+1,rfl,h3,by simp only [lastF,h4];rfl⟩⟩
theorem bw84_c (l:List Ser) (H:Heap):VCall Tryz.prog 90 [.sl none l.length (l.flatMap Ser.cells)] H (fun r H'=>r=.clo (.func 102) [] [.ptr (H.length+0) 0]∧H'=H++[.box 22 [.sl none l.length (l.flatMap Ser.cells)]]):=by
 refine zfe Tryz.E0 zad Tryz.func90 (by kernel_rfl) rfl (ybv rfl) rfl fun hcl hbl=>?_
 (repeat' ((conv=>whnf);(first|refine zab [] ?_|fail)));all_goals (conv=>whnf)
 exact EndN.keep _ (yae _) ⟨rfl,rfl⟩
theorem bw86_c (l:List Ver) (H:Heap):VCall Tryz.prog 72 [.sl none l.length (l.flatMap Ver.cells)] H (fun r H'=>r=.clo (.func 92) [] [.ptr (H.length+0) 0]∧H'=H++[.box 67 [.sl none l.length (l.flatMap Ver.cells)]]):=by
 refine zfe Tryz.E0 zad Tryz.func72 (by kernel_rfl) rfl (ybv rfl) rfl fun hcl hbl=>?_
 (repeat' ((conv=>whnf);(first|refine zab [] ?_|fail)));all_goals (conv=>whnf)
 exact EndN.keep _ (yae _) ⟨rfl,rfl⟩
theorem lastS_c (l:List Ser) (hl:l.length≤4611686018427387904) (F:FuncId) (cs:List AV) (p:Ser→Bool) (H:Heap) (hp:∀ s A Y X,VDet Tryz.prog F (.agg s.cells::cs) (((H++A)++Y)++X) (.bool (p s))) :
  VDet Tryz.prog 67 [.sl none l.length (l.flatMap Ser.cells),.clo (.func F) [] cs] H (.tup [.agg ((lastF p l).getD ser0).cells,.bool (lastF p l).isSome]):=by
 have hb84:∀ B1 B2 B3,VCall Tryz.prog 90 [.sl none l.length (l.flatMap Ser.cells)] (H++[B1,B2,B3]) (fun r H'=>r=.clo (.func 102) [] [.ptr (H.length+3) 0]∧H'=(H++[B1,B2,B3])++[.box 22 [.sl none l.length (l.flatMap Ser.cells)]]):=by
  intro B1 B2 B3
  have:=bw84_c l (H++[B1,B2,B3])
  rwa [ya5] at this
 obtain ⟨m,hm,hno,hfin⟩:=lastF_at p ser0 l
 refine zap Tryz.E0 zad Tryz.func67 (by kernel_rfl) rfl (ybv rfl) rfl fun hcl hbl=>?_
 have hbc:∀ N,H.length≤N→zac N cs:=fun N hN=>by
  simp only [zac,below] at hbl
  exact zbd hN _ hbl.2.1.2.2
 have hbls:∀ x∈([.box 152 [.clo (.func F) [] cs],.box 69 [.str .empty,.nils],.box 4 [.bool false],.box 22 [.sl none l.length (l.flatMap Ser.cells)]]:Heap),x.below (H.length+(4+1)):=by
  intro B hB
  simp only [yay,ycu,or_false] at hB
  rcases hB with rfl|rfl|rfl|rfl
  ·exact ⟨⟨trivial,trivial,hbc _ (by omega)⟩,trivial⟩
  ·simp [Blk.below,zac,below]
  ·simp [Blk.below,zac,below]
  ·simp [Blk.below,zac,below,zae]
 have hbk:zau H.length (H.length+(4+1)) [(3,.lp 0 0),(4,.lp 1 0),(5,.lp 2 0)]:=by simp [zau,below,tr]
 have hround:∀ (s:Ser),∃ x n c,s.cells=[.str x,.sl none n c]:=fun s=>⟨_,_,_,rfl⟩
 (repeat' ((conv=>whnf);(first|refine ydp _ _ _ 4 (hb84 _ _ _) rfl rfl rfl ?_|refine zab [] ?_|fail)));all_goals (conv=>whnf)
 refine range_bwd (d:=ser0) ⟨fun m i ip H He h1 h2 h3 h4 h5=>bwdS_c l hl m i ip H He h1 h2 h3 h4 h5⟩ rfl hcl rfl [3,4,5] _ rfl (by decide) rfl m hm 3 rfl rfl hbls hbk ?_ ?_
 ·intro j hj1 hj2
  have hpj:=fun A Y X=>hp (l.getD j ser0) A Y X
  have hpf:=hno j hj1 hj2
  obtain ⟨x,n,c,hxy⟩:=hround (l.getD j ser0)
  rw [hxy] at hpj ⊢
  rw [hpf] at hpj
  rw [← yat (H++_)]
  (repeat' ((conv=>whnf);(first|refine zab [] ?_|fail)));all_goals (conv=>whnf)
  refine ⟨none,_,zco [] rfl,ze3 rfl,?_⟩
  generalize hB:Blk.loop LoopState.busy none _ _=B
  (repeat' ((conv=>whnf);(first|refine yau rfl ?_|refine yab _ (hpj _ _ _) ?_|refine yb9 _ (by (repeat' (first|assumption|exact zco _ rfl|exact zbk rfl|refine zey (B':=?_) ?_|refine zb2 ?_|fail))) ?_|refine zab [] ?_|fail)));all_goals (conv=>whnf)
  subst hB
  exact rnd_end (l':=[_,_,_,_]) .normal rfl rfl hbls hbk
 ·rcases hfin with ⟨rfl,hf⟩|⟨j,rfl,hpj0,hf⟩
  ·refine .inl ⟨rfl,?_⟩
   (repeat' ((conv=>whnf);(first|refine zab [] ?_|fail)));all_goals (conv=>whnf)
   refine ya1 (by simp [below,zac,zak]) ?_
   rw [hf]
   (repeat' (first|exact trivial|refine ybz ?_ ?_|exact yae _|exact wk_sl _ _ _|exact wk_sx _ _|exact zbp|refine zbs ?_|refine zby ?_|fail));done
  ·obtain ⟨x,n,c,hxy⟩:=hround (l.getD j ser0)
   have hbel:=zak (H.length+5) (l.getD j ser0)
   have hbel2:=zak H.length (l.getD j ser0)
   have hpj:=fun A Y X=>hp (l.getD j ser0) A Y X
   rw [hpj0] at hpj
   rw [hf]
   simp only [yct,Option.isSome_some]
   rw [hxy] at hpj hbel hbel2 ⊢
   refine .inr ⟨j,[.box 152 [.clo (.func F) [] cs],.box 69 [.str x,.sl none n c],.box 4 [.bool true],.box 22 [.sl none l.length (l.flatMap Ser.cells)]],.ret,rfl,rfl,?_,?_,?_⟩
   ·intro B hB
    simp only [yay,ycu,or_false] at hB
    rcases hB with rfl|rfl|rfl|rfl
    ·exact ⟨⟨trivial,trivial,hbc _ (by omega)⟩,trivial⟩
    ·exact hbel
    ·simp [Blk.below,zac,below]
    ·simp [Blk.below,zac,below,zae]
   ·rw [hxy,← yat (H++_)]
    (repeat' ((conv=>whnf);(first|refine zab [] ?_|fail)));all_goals (conv=>whnf)
    refine ⟨none,_,zco [] rfl,ze3 rfl,?_⟩
    generalize hB:Blk.loop LoopState.busy none _ _=B
    (repeat' ((conv=>whnf);(first|refine SetN.mk _ (ze3 rfl) ?_|refine yaq rfl ?_|refine yab _ (hpj _ _ _) ?_|refine yb9 _ (by (repeat' (first|assumption|exact zco _ rfl|exact zbk rfl|refine zey (B':=?_) ?_|refine zb2 ?_|fail))) ?_|refine zab [] ?_|fail)));all_goals (conv=>whnf)
    subst hB
    rw [← yat (H++([_,_,_,_]++_))]
    refine rnd_end (l':=[_,_,_,_]) .ret rfl rfl ?_ hbk
    intro B hB
    simp only [yay,ycu,or_false] at hB
    rcases hB with rfl|rfl|rfl|rfl
    ·exact ⟨⟨trivial,trivial,hbc _ (by omega)⟩,trivial⟩
    ·exact hbel
    ·simp [Blk.below,zac,below]
    ·simp [Blk.below,zac,below,zae]
   ·(repeat' ((conv=>whnf);(first|refine zab [] ?_|fail)));all_goals (conv=>whnf)
    refine ya1 (by simpa [below,zac] using hbel2) ?_
    (repeat' (first|exact trivial|refine ybz ?_ ?_|exact yae _|exact wk_sl _ _ _|exact wk_sx _ _|exact zbp|refine zbs ?_|refine zby ?_|fail));done
theorem lastV_c (l:List Ver) (hl:l.length≤4611686018427387904) (F:FuncId) (cs:List AV) (p:Ver→Bool) (H:Heap) (hp:∀ s A Y X,VDet Tryz.prog F (.agg s.cells::cs) (((H++A)++Y)++X) (.bool (p s))) :
  VDet Tryz.prog 53 [.sl none l.length (l.flatMap Ver.cells),.clo (.func F) [] cs] H (.tup [.agg ((lastF p l).getD ver0).cells,.bool (lastF p l).isSome]):=by
 have hb86:∀ B1 B2 B3,VCall Tryz.prog 72 [.sl none l.length (l.flatMap Ver.cells)] (H++[B1,B2,B3]) (fun r H'=>r=.clo (.func 92) [] [.ptr (H.length+3) 0]∧H'=(H++[B1,B2,B3])++[.box 67 [.sl none l.length (l.flatMap Ver.cells)]]):=by
  intro B1 B2 B3
  have:=bw86_c l (H++[B1,B2,B3])
  rwa [ya5] at this
 obtain ⟨m,hm,hno,hfin⟩:=lastF_at p ver0 l
 refine zap Tryz.E0 zad Tryz.func53 (by kernel_rfl) rfl (ybv rfl) rfl fun hcl hbl=>?_
 have hbc:∀ N,H.length≤N→zac N cs:=fun N hN=>by
  simp only [zac,below] at hbl
  exact zbd hN _ hbl.2.1.2.2
 have hbls:∀ x∈([.box 134 [.clo (.func F) [] cs],.box 71 [.int .i64 0,.int .i64 0,.int .i64 0,.nils,.int .i64 0,.int .i64 0,.int .i64 0,.int .u8 0],.box 4 [.bool false],.box 67 [.sl none l.length (l.flatMap Ver.cells)]]:Heap),x.below (H.length+(4+1)):=by
  intro B hB
  simp only [yay,ycu,or_false] at hB
  rcases hB with rfl|rfl|rfl|rfl
  ·exact ⟨⟨trivial,trivial,hbc _ (by omega)⟩,trivial⟩
  ·simp [Blk.below,zac,below]
  ·simp [Blk.below,zac,below]
  ·simp [Blk.below,zac,below,zah]
 have hbk:zau H.length (H.length+(4+1)) [(3,.lp 0 0),(4,.lp 1 0),(5,.lp 2 0)]:=by simp [zau,below,tr]
 have hround:∀ (s:Ver),∃ a b c n d e f g h,s.cells=[.int .i64 a,.int .i64 b,.int .i64 c,.sl none n d,.int .i64 e,.int .i64 f,.int .i64 g,.int .u8 h]:=fun s=>⟨_,_,_,_,_,_,_,_,_,rfl⟩
 (repeat' ((conv=>whnf);(first|refine ydp _ _ _ 4 (hb86 _ _ _) rfl rfl rfl ?_|refine zab [] ?_|fail)));all_goals (conv=>whnf)
 refine range_bwd (d:=ver0) ⟨fun m i ip H He h1 h2 h3 h4 h5=>bwdV_c l hl m i ip H He h1 h2 h3 h4 h5⟩ rfl hcl rfl [3,4,5] _ rfl (by decide) rfl m hm 3 rfl rfl hbls hbk ?_ ?_
 ·intro j hj1 hj2
  have hpj:=fun A Y X=>hp (l.getD j ver0) A Y X
  have hpf:=hno j hj1 hj2
  obtain ⟨a1,b1,c1,n1,d1,e1,f1,g1,h1,hxy⟩:=hround (l.getD j ver0)
  rw [hxy] at hpj ⊢
  rw [hpf] at hpj
  rw [← yat (H++_)]
  (repeat' ((conv=>whnf);(first|refine zab [] ?_|fail)));all_goals (conv=>whnf)
  refine ⟨none,_,zco [] rfl,ze3 rfl,?_⟩
  generalize hB:Blk.loop LoopState.busy none _ _=B
  (repeat' ((conv=>whnf);(first|refine yau rfl ?_|refine yab _ (hpj _ _ _) ?_|refine yb9 _ (by (repeat' (first|assumption|exact zco _ rfl|exact zbk rfl|refine zey (B':=?_) ?_|refine zb2 ?_|fail))) ?_|refine zab [] ?_|fail)));all_goals (conv=>whnf)
  subst hB
  exact rnd_end (l':=[_,_,_,_]) .normal rfl rfl hbls hbk
 ·rcases hfin with ⟨rfl,hf⟩|⟨j,rfl,hpj0,hf⟩
  ·refine .inl ⟨rfl,?_⟩
   (repeat' ((conv=>whnf);(first|refine zab [] ?_|fail)));all_goals (conv=>whnf)
   refine ya1 (by simp [below,zac,zal]) ?_
   rw [hf]
   (repeat' (first|exact trivial|refine ybz ?_ ?_|exact yae _|exact wk_sl _ _ _|exact wk_sx _ _|exact zbp|refine zbs ?_|refine zby ?_|fail));done
  ·obtain ⟨a1,b1,c1,n1,d1,e1,f1,g1,h1,hxy⟩:=hround (l.getD j ver0)
   have hbel:=zal (H.length+5) (l.getD j ver0)
   have hbel2:=zal H.length (l.getD j ver0)
   have hpj:=fun A Y X=>hp (l.getD j ver0) A Y X
   rw [hpj0] at hpj
   rw [hf]
   simp only [yct,Option.isSome_some]
   rw [hxy] at hpj hbel hbel2 ⊢
   refine .inr ⟨j,[.box 134 [.clo (.func F) [] cs],.box 71 [.int .i64 a1,.int .i64 b1,.int .i64 c1,.sl none n1 d1,.int .i64 e1,.int .i64 f1,.int .i64 g1,.int .u8 h1],.box 4 [.bool true],.box 67 [.sl none l.length (l.flatMap Ver.cells)]],.ret,rfl,rfl,?_,?_,?_⟩
   ·intro B hB
    simp only [yay,ycu,or_false] at hB
    rcases hB with rfl|rfl|rfl|rfl
    ·exact ⟨⟨trivial,trivial,hbc _ (by omega)⟩,trivial⟩
    ·exact hbel
    ·simp [Blk.below,zac,below]
    ·simp [Blk.below,zac,below,zah]
   ·rw [hxy,← yat (H++_)]
    (repeat' ((conv=>whnf);(first|refine zab [] ?_|fail)));all_goals (conv=>whnf)
    refine ⟨none,_,zco [] rfl,ze3 rfl,?_⟩
    generalize hB:Blk.loop LoopState.busy none _ _=B
    (repeat' ((conv=>whnf);(first|refine SetN.mk _ (ze3 rfl) ?_|refine yaq rfl ?_|refine yab _ (hpj _ _ _) ?_|refine yb9 _ (by (repeat' (first|assumption|exact zco _ rfl|exact zbk rfl|refine zey (B':=?_) ?_|refine zb2 ?_|fail))) ?_|refine zab [] ?_|fail)));all_goals (conv=>whnf)
    subst hB
    rw [← yat (H++([_,_,_,_]++_))]
    refine rnd_end (l':=[_,_,_,_]) .ret rfl rfl ?_ hbk
    intro B hB
    simp only [yay,ycu,or_false] at hB
    rcases hB with rfl|rfl|rfl|rfl
    ·exact ⟨⟨trivial,trivial,hbc _ (by omega)⟩,trivial⟩
    ·exact hbel
    ·simp [Blk.below,zac,below]
    ·simp [Blk.below,zac,below,zah]
   ·(repeat' ((conv=>whnf);(first|refine zab [] ?_|fail)));all_goals (conv=>whnf)
    refine ya1 (by simpa [below,zac] using hbel2) ?_
    (repeat' (first|exact trivial|refine ybz ?_ ?_|exact yae _|exact wk_sl _ _ _|exact wk_sx _ _|exact zbp|refine zbs ?_|refine zby ?_|fail));done
theorem clo66_c (s:Ser) (ex:ByteArray) (p:Nat) (H:Heap) (hp:H[p]? = some (.box 9 [.str ex])):VDet Tryz.prog 68 [.agg s.cells,.ptr p 0] H (.bool (eqS s.name ex)):=by
 obtain ⟨nm,vs⟩:=s
 unfold Ser.cells
 simp only
 refine zap Tryz.E0 zad Tryz.func68 (by kernel_rfl) rfl (ybv rfl) rfl fun hcl hbl=>?_
 (repeat' ((conv=>whnf);(first|refine yb9 _ (by (repeat' (first|assumption|exact zco _ rfl|exact zbk rfl|refine zey (B':=?_) ?_|refine zb2 ?_|fail))) ?_|refine zab [] ?_|fail)));all_goals (conv=>whnf)
 exact eT trivial
theorem clo73_c (v:Ver) (day:Int) (p:Nat) (H:Heap) (hp:H[p]? = some (.box 3 [.int .i64 day])):VDet Tryz.prog 54 [.agg v.cells,.ptr p 0] H (.bool (decide (v.at_≤day))):=by
 obtain ⟨at_,pts,part,att,rty,hnt,cnt,lates⟩:=v
 unfold Ver.cells
 simp only
 refine zap Tryz.E0 zad Tryz.func54 (by kernel_rfl) rfl (ybv rfl) rfl fun hcl hbl=>?_
 (repeat' ((conv=>whnf);(first|refine yb9 _ (by (repeat' (first|assumption|exact zco _ rfl|exact zbk rfl|refine zey (B':=?_) ?_|refine zb2 ?_|fail))) ?_|refine zab [] ?_|fail)));all_goals (conv=>whnf)
 exact eT trivial
theorem zdl {α:Type} {p:α→Bool}:∀ {l:List α} {x:α},lastF p l=some x→x∈l∧p x=true
 | [],_,h=>by cases h
 | y::l,x,h=>by
   unfold lastF at h
   cases hl:lastF p l with
   | some z =>
     rw [hl] at h
     simp only [yad] at h
     subst h
     exact ⟨ya4 _ (zdl hl).1,(zdl hl).2⟩
   | none =>
     rw [hl] at h
     simp only at h
     split at h
     ·cases h
      exact ⟨ybc,by assumption⟩
     ·cases h
def serF (b:Bk) (ex:ByteArray):Option Ser:=lastF (fun s=>eqS s.name ex) b.ser
def verF (l:List Ver) (day:Int):Option Ver:=lastF (fun v=>decide (v.at_≤day)) l
def za3 (b:Bk) (ex:ByteArray) (day:Int):Option Ver:=verF ((serF b ex).getD ser0).vers day
theorem series_c (b:Bk) (hl:b.ser.length≤4611686018427387904) (ex:ByteArray) (H:Heap):VDet Tryz.prog 48 [.agg b.cells,.str ex] H (.tup [.agg ((serF b ex).getD ser0).cells,.bool (serF b ex).isSome]):=by
 have hbel:=zak H.length ((serF b ex).getD ser0)
 obtain ⟨x,n,c,hxy⟩:∃ x n c,((serF b ex).getD ser0).cells=[.str x,.sl none n c]:=⟨_,_,_,rfl⟩
 have hls:∀ (B1 B2 B3:Blk),B2=.box 9 [.str ex]→VDet Tryz.prog 67 [.sl none b.ser.length (b.ser.flatMap Ser.cells),.clo (.func 68) [] [.ptr (H.length+1) 0]] (H++[B1,B2,B3]) (.tup [.agg ((serF b ex).getD ser0).cells,.bool (serF b ex).isSome]):=fun B1 B2 B3 h2 =>
  lastS_c b.ser hl 68 [.ptr (H.length+1) 0] (fun s=>eqS s.name ex) _ fun s A Y X=>clo66_c s ex _ _ (zb2 (zb2 (zb2 (zbk (j:=1) (by rw [h2];rfl)))))
 unfold Bk.cells
 rw [hxy] at hls hbel ⊢
 refine zap Tryz.E0 zad Tryz.func48 (by kernel_rfl) rfl (ybv rfl) rfl fun hcl hbl=>?_
 (repeat' ((conv=>whnf);(first|refine yab _ (hls _ _ _ rfl) ?_|refine zab [] ?_|fail)));all_goals (conv=>whnf)
 exact ya1 (by simpa [below,zac] using hbel) (yae _)
theorem zd9 (b:Bk) (hl:b.ser.length≤4611686018427387904) (hv:∀ s∈b.ser,s.vers.length≤4611686018427387904) (ex:ByteArray) (day:Int) (H:Heap):VDet Tryz.prog 31 [.agg b.cells,.str ex,.int .i64 day] H (.tup [.agg ((za3 b ex day).getD ver0).sch.cells,.bool (za3 b ex day).isSome]):=by
 have h1:=fun H=>series_c b hl ex H
 unfold za3
 have hvl:((serF b ex).getD ser0).vers.length≤4611686018427387904:=by
  cases hs:serF b ex with
  | none=>exact yah _
  | some s=>exact hv s (zdl hs).1
 generalize (serF b ex).getD ser0=ser at *
 obtain ⟨nm,vs⟩:=ser
 simp only at hvl
 have hls:∀ (B1 B2 B3 B4:Blk),B2=.box 3 [.int .i64 day]→VDet Tryz.prog 53 [.sl none vs.length (vs.flatMap Ver.cells),.clo (.func 54) [] [.ptr (H.length+1) 0]] (H++[B1,B2,B3,B4]) (.tup [.agg ((verF vs day).getD ver0).cells,.bool (verF vs day).isSome]):=fun B1 B2 B3 B4 h2 =>
  lastV_c vs hvl 54 [.ptr (H.length+1) 0] (fun v=>decide (v.at_≤day)) _ fun s A Y X=>clo73_c s day _ _ (zb2 (zb2 (zb2 (zbk (j:=1) (by rw [h2];rfl)))))
 generalize (verF vs day).getD ver0=vv at *
 obtain ⟨at_,pts,part,att,rty,hnt,cnt,lates⟩:=vv
 unfold Ver.cells Sch.cells at *
 unfold Bk.cells at *
 unfold Ser.cells at h1
 simp only at *
 refine zap Tryz.E0 zad Tryz.func31 (by kernel_rfl) rfl (ybv rfl) rfl fun hcl hbl=>?_
 (repeat' ((conv=>whnf);(first|(refine ybi ?_;first|refine yab _ (h1 _) ?_|refine yab _ (hls _ _ _ _ rfl) ?_|fail)|refine zab [] ?_|fail)));all_goals (conv=>whnf)
 exact ya1 (by simp [below,zac,zaf]) (yae _)
theorem zai {α:Type} {f:α→List AV} {sz:Nat} {l:List α} {i:Int} {k:List AV→Prop} {c:List AV} (d:α) (m:Nat) (hi:i=m) (hm:m<l.length) (hsz:∀ x,(f x).length=sz) (e:f (l.getD m d)=c) (h:k c):SegN (l.flatMap f) (i.toNat * sz) k :=
 zbt d m hi hm hsz (e▸h)
def okV (l:List Ver) (i:Nat):Bool:=isDay (l.getD i ver0).at_&&((i==0 || !decide ((l.getD i ver0).at_≤(l.getD (i-1) ver0).at_))&&zbv (l.getD i ver0).sch)
def zfi (l:List Ver):Bool:=decide (1≤l.length)&&(decide (l.length≤20)&&(List.range l.length).all (okV l))
theorem rng_no {p:Nat→Bool} {n k:Nat} (hk:k<n) (h:p k=false):(List.range n).all p=false:=by
 rw [List.all_eq_false]
 exact ⟨k,ybo.2 hk,by simp [h]⟩
theorem rng_yes {p:Nat→Bool} {n:Nat} (h:∀ i,i<n→p i=true):(List.range n).all p=true:=by
 rw [yao]
 exact fun x hx=>h x (ybo.1 hx)
theorem zcr (v:Ver):∃ at_ pts part att rty hnt cnt lates,v=⟨at_,⟨pts,part,att,rty,hnt,cnt,lates⟩⟩:=⟨_,_,_,_,_,_,_,_,rfl⟩
theorem zbl {v:Ver} {at_ pts part att rty hnt cnt:Int} {lates:List (Int×Int)} (h:v=⟨at_,⟨pts,part,att,rty,hnt,cnt,lates⟩⟩):v.cells=[.int .i64 at_,.int .i64 pts,.int .i64 part,.sl none lates.length (lates.flatMap encP),.int .i64 att,.int .i64 rty,.int .i64 hnt,.int .u8 cnt]:=by
 subst h
 rfl
theorem validVers_c (l:List Ver) (hl:l.length≤4611686018427387904) (H:Heap):VDet Tryz.prog 42 [.sl none l.length (l.flatMap Ver.cells)] H (.bool (zfi l)):=by
 refine zap Tryz.E0 zad Tryz.func42 (by kernel_rfl) rfl (ybv rfl) rfl fun hcl hbl=>?_
 (repeat' ((conv=>whnf);(first|refine zbq (fun _=>?_) (fun _=>?_)|refine zab [] ?_|fail)));all_goals (conv=>whnf)
 all_goals try (refine ya1 trivial (Wk.of_eq (congrArg AV.bool ?_));simp [zfi];omega)
 refine zbg Tryz.E0 zad (σ:=Nat) (fun k=>k≤l.length∧∀ i,i<k→okV l i=true) (fun k=>l.length-k) (fun k=>[(15,.v (.int .i64 k))]) (fun _=>_) _ 0 rfl hcl [0,13,14] rfl ⟨yah _,fun i hi=>absurd hi (Nat.not_lt_zero i)⟩ ⟨⟨_,rfl,yae _⟩,trivial⟩ rfl (fun _ _=>rfl) ?_
 rintro k ⟨hk,hok⟩
 rcases yag k l.length with hlt|hge
 ·have e0:okV l k=(isDay (l.getD k ver0).at_&&((k==0 || !decide ((l.getD k ver0).at_≤(l.getD (k-1) ver0).at_))&&zbv (l.getD k ver0).sch)):=rfl
  have hva:=fun H=>zdi (l.getD k ver0).sch H
  obtain ⟨at_,pts,part,att,rty,hnt,cnt,lates,hv1⟩:=zcr (l.getD k ver0)
  obtain ⟨at2,pts2,part2,att2,rty2,hnt2,cnt2,lates2,hv2⟩:=zcr (l.getD (k-1) ver0)
  rw [hv1] at hva
  rw [hv1,hv2] at e0
  have e1:=zbl hv1
  have e2:=zbl hv2
  unfold Sch.cells at hva
  simp only at e0 hva
  (repeat' ((conv=>whnf);(first|(refine yai ?_;first|refine yas ?_|refine yar (by omega) ?_|refine zbq (fun _=>?_) (fun _=>?_)|(refine IfN.mk ?_ ?_ <;> intro _)|fail)|(refine ycp ?_;first|(refine zao _ _ Cst.h Cst.h ?_ ?_;· omega)|(refine zbi _ _ Cst.h Cst.h ?_ ?_;· omega)|fail)|(refine yaf ?_ ?_;· first|kernel_rfl|omega|exact yaa _ _|(simp;done)|(simp;omega)|exact trivial|assumption|fail)|(refine ycc ?_;first|refine yan _ (fun _ hq X=>zbh _ _) ?_|refine yan _ (fun _ hq X=>hva _) ?_|fail)|refine zai ver0 k rfl (by omega) zbf e1 ?_|refine zai ver0 (k-1) (by omega) (by omega) zbf e2 ?_|refine zab [] ?_|fail)));all_goals (conv=>whnf)
  all_goals first
   | (refine ya1 trivial (Wk.of_eq (congrArg AV.bool ?_))
      have hno:okV l k=false:=by simp_all;try omega
      have:=rng_no (n:=l.length) (p:=okV l) hlt hno
      simp [zfi,this];done)
   | (have hyes:okV l k=true:=by simp_all;try omega
      (refine ⟨⟨k+1,⟨by omega,fun i hi=>by
       rcases yag i k with h|h
       ·exact hok i h
       ·have:i=k:=by omega
        exact this▸hyes⟩,by omega,?_,.inl ⟨rfl,rfl⟩,rfl,_,rfl,?_⟩⟩;rotate_left 1;(first|exact .inl rfl|exact .inr ⟨by simp [zau,below,zac,tr,zae,zah,zag,zam,zak,zal,zaf],by simp [za5,Blk.below,zac,below,zae,zah,zag,zam,zak,zal,zaf]⟩|fail);(repeat' (first|exact trivial|refine ⟨⟨_,rfl,?_⟩,?_⟩|fail));all_goals try (first|exact yae _|exact Wk.of_eq (congrArg (AV.int _) (by omega))|fail)))
   | fail
 ·(repeat' ((conv=>whnf);(first|refine zat (by omega) ?_|refine zab [] ?_|fail)));all_goals (conv=>whnf)
  refine ya1 trivial (Wk.of_eq (congrArg AV.bool ?_))
  have h1:=rng_yes (n:=l.length) (p:=okV l) fun i hi=>hok i (by omega)
  have h2:decide (1≤l.length)=true:=decide_eq_true (by omega)
  have h3:decide (l.length≤20)=true:=decide_eq_true (by omega)
  simp [zfi,h1,h2,h3]
end
theorem nodup_snoc {α:Type} {l:List α} {e:α} (h:l.Nodup) (he:e ∉ l):(l++[e]).Nodup:=by
 rw [List.nodup_append]
 refine ⟨h,by simp,fun a ha b hb=>?_⟩
 simp at hb
 subst hb
 exact fun e=>he (e▸ha)
theorem nodup_inj {α:Type} {l:List α} (h:l.Nodup) {i j:Nat} (hi:i<l.length) (hj:j<l.length) (e:l[i]=l[j]):i=j:=by
 unfold List.Nodup at h
 rw [List.pairwise_iff_getElem] at h
 rcases Nat.lt_trichotomy i j with q|q|q
 ·exact absurd e (h i j hi hj q)
 ·exact q
 ·exact absurd e.symm (h j i hj hi q)
theorem ba_beq (a b:ByteArray):(a.toList==b.toList)=decide (a=b):=by
 have h:a.toList=b.toList↔a=b:=by
  constructor
  ·intro h
   rw [ByteArray.toList_eq,ByteArray.toList_eq] at h
   exact ByteArray.ext (Array.toList_inj.1 h)
  ·rintro rfl;rfl
 by_cases hab:a=b
 ·subst hab;simp
 ·rw [decide_eq_false hab,beq_eq_false_iff_ne]
  exact fun e=>hab (h.1 e)
theorem eqS_iff {a b:ByteArray}:eqS a b=true↔a=b:=by
 unfold eqS
 rw [ba_beq,decide_eq_true_eq]
abbrev Ky:=ByteArray×ByteArray
def keyC (k:Ky):List AV:=[.str k.1,.str k.2]
def keyOf (e:Ent):Ky:=(e.exe,e.stu)
def eqK (a b:Ky):Bool:=eqS a.1 b.1&&eqS a.2 b.2
theorem eqK_iff {a b:Ky}:eqK a b=true↔a=b:=by
 unfold eqK
 rw [yak,eqS_iff,eqS_iff,Prod.ext_iff]
theorem ze7 (a:Ky):eqK a a=true:=eqK_iff.2 rfl
def insK (ks:List Ky) (k:Ky):List Ky:=if ks.any (eqK k) then ks else ks++[k]
def keysF (l:List Ent):List Ky:=l.foldl (fun ks e=>insK ks (keyOf e)) []
theorem zeu (l:List Ent) (e:Ent):keysF (l++[e])=insK (keysF l) (keyOf e):=by
 unfold keysF
 rw [List.foldl_append]
 rfl
theorem any_eqK {k:Ky} {ks:List Ky}:ks.any (eqK k)=true↔k∈ks:=by
 rw [yc0]
 constructor
 ·rintro ⟨x,h1,h2⟩
  exact eqK_iff.1 h2▸h1
 ·exact fun h=>⟨k,h,ze7 k⟩
theorem insK_in {ks:List Ky} {k:Ky} (h:k∈ks):insK ks k=ks:=by
 unfold insK
 rw [if_pos (any_eqK.2 h)]
theorem zhb {ks:List Ky} {k:Ky} (h:k ∉ ks):insK ks k=ks++[k]:=by
 unfold insK
 rw [if_neg (fun q=>h (any_eqK.1 q))]
theorem mem_insK {ks:List Ky} {k x:Ky}:x∈insK ks k↔x∈ks∨x=k:=by
 by_cases h:k∈ks
 ·rw [insK_in h]
  exact ⟨.inl,fun q=>q.elim id fun e=>e▸h⟩
 ·rw [zhb h]
  simp
theorem nodup_insK {ks:List Ky} {k:Ky} (h:ks.Nodup):(insK ks k).Nodup:=by
 by_cases hk:k∈ks
 ·rwa [insK_in hk]
 ·rw [zhb hk]
  exact nodup_snoc h hk
theorem snoc_ind {α:Type} {p:List α→Prop} (h0:p []) (h1:∀ l x,p l→p (l++[x])) (l:List α):p l:=by
 have:∀ m:List α,p m.reverse:=by
  intro m
  induction m with
  | nil=>exact h0
  | cons x m ih =>
    rw [List.reverse_cons]
    exact h1 _ _ ih
 have h:=this l.reverse
 rwa [List.reverse_reverse] at h
theorem zd7 (l:List Ent):(keysF l).Nodup:=by
 induction l using snoc_ind with
 | h0=>exact List.nodup_nil
 | h1 l x ih =>
   rw [zeu]
   exact nodup_insK ih
theorem mem_keysF {l:List Ent} {k:Ky}:k∈keysF l↔∃ e∈l,keyOf e=k:=by
 induction l using snoc_ind with
 | h0=>simp [keysF]
 | h1 l x ih =>
   rw [zeu,mem_insK,ih]
   constructor
   ·rintro (⟨e,h1,h2⟩|rfl)
    ·exact ⟨e,List.mem_append_left _ h1,h2⟩
    ·exact ⟨x,List.mem_append_right _ (yaz.2 rfl),rfl⟩
   ·rintro ⟨e,h1,h2⟩
    rcases ybh.1 h1 with h|h
    ·exact .inl ⟨e,h,h2⟩
    ·simp at h
     subst h
     exact .inr h2.symm
def ofK (l:List Ent) (k:Ky):List Ent:=l.filter fun e=>eqK (keyOf e) k
def cntK (l:List Ent) (k:Ky):Nat:=(ofK l k).length
theorem zf3 (l:List Ent) (e:Ent) (k:Ky):ofK (l++[e]) k=if keyOf e=k then ofK l k++[e] else ofK l k:=by
 unfold ofK
 rw [List.filter_append]
 by_cases h:keyOf e=k
 ·rw [if_pos h]
  simp [h,ze7]
 ·rw [if_neg h]
  have:eqK (keyOf e) k=false:=by
   cases hh:eqK (keyOf e) k with
   | false=>rfl
   | true=>exact absurd (eqK_iff.1 hh) h
  simp [this]
theorem ofK_nil {l:List Ent} {k:Ky} (h:k ∉ keysF l):ofK l k=[]:=by
 unfold ofK
 rw [List.filter_eq_nil_iff]
 intro e he hh
 exact h (mem_keysF.2 ⟨e,he,eqK_iff.1 hh⟩)
theorem zgn (l:List Ent) (k:Ky):cntK l k≤l.length:=List.length_filter_le _ _
theorem eqVK (x y:Ky):eqV Tryz.kn Tryz.T 20 100 (.agg (keyC x)) (.agg (keyC y))=some (decide (x=y)):=by
 obtain ⟨a,n⟩:=x
 obtain ⟨b,m⟩:=y
 show some (a.toList==b.toList&&(n.toList==m.toList&&true))=_
 rw [ba_beq,ba_beq,Bool.and_true]
 congr 1
 apply yb5.2
 rw [yak,decide_eq_true_eq,decide_eq_true_eq,decide_eq_true_eq,yb7]
theorem mfindK (c:Ky):∀ ks:List Ky,(c∈ks→∃ j,j<ks.length∧ks[j]? = some c∧mfind (eqV Tryz.kn Tryz.T 20 100) (.agg (keyC c)) (ks.map fun x=>.agg (keyC x))=some (some j))∧(c ∉ ks→mfind (eqV Tryz.kn Tryz.T 20 100) (.agg (keyC c)) (ks.map fun x=>.agg (keyC x))=some none)
 | []=>⟨fun h=>by simp at h,fun _=>rfl⟩
 | d::ks=>by
   have he:=eqVK c d
   obtain ⟨h1,h2⟩:=mfindK c ks
   simp only [ybx,mfind,he]
   by_cases hcd:c=d
   ·subst hcd
    simp only [decide_true]
    exact ⟨fun _=>⟨0,by simp,rfl,rfl⟩,fun h=>absurd (ybc) h⟩
   ·have hb:decide (c=d)=false:=by simpa using hcd
    simp only [hb]
    refine ⟨fun h=>?_,fun h=>?_⟩
    ·obtain ⟨j,e1,e2,e3⟩:=h1 ((yay.1 h).resolve_left hcd)
     exact ⟨j+1,by simpa using e1,by simpa using e2,by rw [e3]⟩
    ·rw [h2 fun q=>h (ya4 _ q)]
def ksA (ks:List Ky):List AV:=ks.map fun k=>.agg (keyC k)
def vsA (ks:List Ky) (f:Ky→AV):List AV:=ks.map f
theorem za8 (n:Nat):∀ ks:List Ky,zac n (ksA ks)
 | []=>trivial
 | _::ks=>⟨by simp [keyC,below,zac],za8 n ks⟩
theorem zfh (n:Nat) (f:Ky→AV):∀ ks:List Ky,(∀ k∈ks,below n (f k))→zac n (vsA ks f)
 | [],_=>trivial
 | k::ks,h=>⟨h k (ybc),zfh n f ks fun x hx=>h x (ya4 _ hx)⟩
theorem lookK {ks:List Ky} (hnd:ks.Nodup) {j:Nat} {c:Ky} (h:ks[j]? = some c):mfind (eqV Tryz.kn Tryz.T 20 100) (.agg (keyC c)) (ksA ks)=some (some j):=by
 obtain ⟨h1,-⟩:=mfindK c ks
 obtain ⟨j',e1,e2,e3⟩:=h1 (ycj h)
 have q1:=(yac.1 e2).2
 have q2:=(yac.1 h).2
 have:j'=j:=nodup_inj hnd _ _ (q1.trans q2.symm)
 rw [← this]
 exact e3
theorem entK (ks:List Ky) (hnd:ks.Nodup) (f f':Ky→AV) (z:AV) (c:Ky) (hf:∀ k∈ks,k≠c→f' k=f k) (hz:c ∉ ks→f c=z) :
  ∃ (j:Nat) (vs1:List AV),MEnt (eqV Tryz.kn Tryz.T 20 100) (ksA ks) (vsA ks f) (.agg (keyC c)) z (ksA (insK ks c)) (f c::.int .i64 j::vs1)∧j<vs1.length∧vs1.set j (f' c)=vsA (insK ks c) f'∧vs1=vsA (insK ks c) f∧j<ks.length+1∧((c∈ks∧j<ks.length)∨(c ∉ ks∧j=ks.length))∧(insK ks c)[j]? = some c:=by
 obtain ⟨h1,h2⟩:=mfindK c ks
 by_cases hc:c∈ks
 ·obtain ⟨j,e1,e2,e3⟩:=h1 hc
  rw [insK_in hc]
  refine ⟨j,vsA ks f,.old j _ e3 (by simp [ksA,e2]) (by simp [vsA,e2]),by simpa [vsA] using e1,?_,rfl,by omega,.inl ⟨hc,e1⟩,e2⟩
  apply ybn
  intro i
  rw [yaw]
  unfold vsA
  by_cases hij:j=i
  ·subst hij
   rw [if_pos rfl,if_pos (by simpa using e1),ya7,e2]
   rfl
  ·rw [if_neg hij,ya7,ya7]
   cases hi:ks[i]? with
   | none=>rfl
   | some k =>
     have hk:k≠c:=by
      rintro rfl
      have hlt:=(yac.1 hi).1
      have q1:=(yac.1 e2).2
      have q2:=(yac.1 hi).2
      exact hij (nodup_inj hnd _ _ (q1.trans q2.symm))
     simp [hf k (ycj hi) hk]
 ·have hn:=h2 hc
  rw [zhb hc]
  have hfc:=hz hc
  refine ⟨ks.length,vsA (ks++[c]) f,?_,by simp [vsA],?_,rfl,by omega,.inr ⟨hc,rfl⟩,by simp⟩
  ·have:=MEnt.new (vs:=vsA ks f) (z:=z) hn
   rw [yav] at this
   have e1:ksA (ks++[c])=(ks.map fun x=>AV.agg (keyC x))++[.agg (keyC c)]:=by simp [ksA]
   have e2:vsA (ks++[c]) f=vsA ks f++[z]:=by simp [vsA,hfc]
   rw [e1,e2,hfc]
   exact this
  ·unfold vsA
   rw [ydh,ydh]
   rw [yb0 _ _ (by simp)]
   simp only [ybx,yde,yav,ycr,List.set_cons_zero]
   congr 1
   apply List.map_congr_left
   intro k hk
   exact (hf k hk (fun e=>hc (e▸hk))).symm
section
attribute [local irreducible] VW VCall VO bits
def okS (b:Bk) (i:Nat):Bool:=zcg (b.ser.getD i ser0).name&&((i==0 || ltS (b.ser.getD (i-1) ser0).name (b.ser.getD i ser0).name)&&zfi (b.ser.getD i ser0).vers)
def okE (b:Bk) (i:Nat):Bool :=
 zcg (b.ent.getD i ent0).stu&&(isDay (b.ent.getD i ent0).day&&((i==0 || !decide ((b.ent.getD i ent0).day<(b.ent.getD (i-1) ent0).day))&&((za3 b (b.ent.getD i ent0).exe (b.ent.getD i ent0).day).isSome &&
  ((zcc ((za3 b (b.ent.getD i ent0).exe (b.ent.getD i ent0).day).getD ver0).sch (b.ent.getD i ent0).work).2==0&&((b.ent.getD i ent0).work.att==(cntK (b.ent.take (i+1)) (keyOf (b.ent.getD i ent0)):Nat))))))
def zbm (b:Bk):Bool:=decide (b.ser.length≤40)&&(decide (b.ent.length≤2000)&&((List.range b.ser.length).all (okS b)&&(List.range b.ent.length).all (okE b)))
structure Bk.Sm (b:Bk):Prop where
 ser:b.ser.length≤4611686018427387904
 ent:b.ent.length≤4611686018427387904
 vers:∀ s∈b.ser,s.vers.length≤4611686018427387904
theorem zdz (s:Ser):∃ nm vs,s=⟨nm,vs⟩:=⟨_,_,rfl⟩
theorem zbz {s:Ser} {nm:ByteArray} {vs:List Ver} (h:s=⟨nm,vs⟩):s.cells=[.str nm,.sl none vs.length (vs.flatMap Ver.cells)]:=by
 subst h
 rfl
theorem zc2 (e:Ent):∃ stu exe day a b c d,e=⟨stu,exe,day,⟨a,b,c,d⟩⟩:=⟨_,_,_,_,_,_,_,rfl⟩
theorem zbn {e:Ent} {stu exe:ByteArray} {day a b c d:Int} (h:e=⟨stu,exe,day,⟨a,b,c,d⟩⟩):e.cells=[.str stu,.str exe,.int .i64 day,.int .i64 a,.int .i64 b,.int .i64 c,.int .i64 d]:=by
 subst h
 rfl
theorem zbb {α:Type} {l:List α} {i:Nat} (d:α) (h:i<l.length):l.getD i d∈l:=by
 rw [ybl,yal h]
 exact List.getElem_mem h
def cntA (l:List Ent) (k:Ky):AV:=.int .i64 (cntK l k:Nat)
theorem za7 (n:Nat) (l:List Ent) (ks:List Ky):zac n (vsA ks (cntA l)):=zfh n _ ks fun _ _=>trivial
theorem take_snoc {α:Type} (l:List α) (d:α) (k:Nat) (h:k<l.length):l.take (k+1)=l.take k++[l.getD k d]:=by
 rw [List.take_add_one]
 simp [yal h]
theorem zcp (b:Bk) (hb:b.Sm) (H:Heap):VDet Tryz.prog 12 [.agg b.cells] H (.bool (zbm b)):=by
 have hif:=fun ex day H=>zd9 b hb.ser hb.vers ex day H
 obtain ⟨hs1,hs2,hs3⟩:=hb
 have hcb:b.cells=[.sl none b.ser.length (b.ser.flatMap Ser.cells),.sl none b.ent.length (b.ent.flatMap Ent.cells)]:=rfl
 rw [hcb] at hif ⊢
 refine zap Tryz.E0 zad Tryz.func12 (by kernel_rfl) rfl (ybv rfl) rfl fun hcl hbl=>?_
 (repeat' ((conv=>whnf);(first|refine zbq (fun _=>?_) (fun _=>?_)|refine zab [] ?_|fail)));all_goals (conv=>whnf)
 ·refine ya1 trivial (Wk.of_eq (congrArg AV.bool ?_))
  have:decide (b.ser.length≤40)=false:=decide_eq_false (by omega)
  simp [zbm,this]
 ·refine ya1 trivial (Wk.of_eq (congrArg AV.bool ?_))
  have:decide (b.ent.length≤2000)=false:=decide_eq_false (by omega)
  simp [zbm,this]
 refine zbg Tryz.E0 zad (σ:=Nat) (fun k=>k≤b.ser.length∧∀ i,i<k→okS b i=true) (fun k=>b.ser.length-k) (fun k=>[(26,.v (.int .i64 k))]) (fun _=>_) _ 0 rfl hcl [1,24,25] rfl ⟨yah _,fun i hi=>absurd hi (Nat.not_lt_zero i)⟩ ⟨⟨_,rfl,yae _⟩,trivial⟩ rfl (fun _ _=>rfl) ?_
 rintro k ⟨hk,hok⟩
 rcases yag k b.ser.length with hlt|hge
 ·have e0:okS b k=(zcg (b.ser.getD k ser0).name&&((k==0 || ltS (b.ser.getD (k-1) ser0).name (b.ser.getD k ser0).name)&&zfi (b.ser.getD k ser0).vers)):=rfl
  have hva:=fun H=>validVers_c (b.ser.getD k ser0).vers (hs3 _ (zbb _ hlt)) H
  obtain ⟨nm,vs,hv1⟩:=zdz (b.ser.getD k ser0)
  obtain ⟨nm2,vs2,hv2⟩:=zdz (b.ser.getD (k-1) ser0)
  rw [hv1] at hva
  rw [hv1,hv2] at e0
  have e1:=zbz hv1
  have e2:=zbz hv2
  simp only at e0 hva
  unfold ltS at e0
  (repeat' ((conv=>whnf);(first|(refine yai ?_;first|refine yas ?_|refine yar (by omega) ?_|refine zbq (fun _=>?_) (fun _=>?_)|(refine IfN.mk ?_ ?_ <;> intro _)|fail)|(refine ycp ?_;first|(refine zao _ _ Cst.h Cst.h ?_ ?_;· omega)|(refine zbi _ _ Cst.h Cst.h ?_ ?_;· omega)|fail)|(refine yaf ?_ ?_;· first|kernel_rfl|omega|exact yaa _ _|(simp;done)|(simp;omega)|exact trivial|assumption|fail)|refine yab _ (hva _) ?_|refine yan _ (fun _ hq X=>zbo _ _) ?_|refine zai ser0 k rfl (by omega) zaz e1 ?_|refine zai ser0 (k-1) (by omega) (by omega) zaz e2 ?_|refine zab [] ?_|fail)));all_goals (conv=>whnf)
  all_goals first
   | (refine ya1 trivial (Wk.of_eq (congrArg AV.bool ?_))
      have hno:okS b k=false:=by simp_all;try omega
      have:=rng_no (n:=b.ser.length) (p:=okS b) hlt hno
      simp [zbm,this];done)
   | (have hyes:okS b k=true:=by simp_all;try omega
      (refine ⟨⟨k+1,⟨by omega,fun i hi=>by
       rcases yag i k with h|h
       ·exact hok i h
       ·have:i=k:=by omega
        exact this▸hyes⟩,by omega,?_,.inl ⟨rfl,rfl⟩,rfl,_,rfl,?_⟩⟩;rotate_left 1;(first|exact .inl rfl|exact .inr ⟨by simp [zau,below,zac,tr,zae,zah,zag,zam,zak,zal,zaf,za8,za7],by simp [za5,Blk.below,zac,below,zae,zah,zag,zam,zak,zal,zaf,za8,za7]⟩|fail);(repeat' (first|exact trivial|refine ⟨⟨_,rfl,?_⟩,?_⟩|fail));all_goals try (first|exact yae _|exact Wk.of_eq (congrArg (AV.int _) (by omega))|fail)))
   | fail
 have h1:=rng_yes (n:=b.ser.length) (p:=okS b) fun i hi=>hok i (by omega)
 have hkk:k=b.ser.length:=by omega
 subst hkk
 clear hok
 (repeat' ((conv=>whnf);(first|refine zat (by omega) ?_|refine zab [] ?_|fail)));all_goals (conv=>whnf)
 refine zbg Tryz.E0 zad (σ:=Nat) (fun k=>k≤b.ent.length∧∀ i,i<k→okE b i=true) (fun k=>b.ent.length-k) (fun k=>[(60,.v (.int .i64 k))]) (fun k=>[.box 25 [.sl none b.ser.length (b.ser.flatMap Ser.cells),.sl none b.ent.length (b.ent.flatMap Ent.cells)],.mp (ksA (keysF (b.ent.take k))) (vsA (keysF (b.ent.take k)) (cntA (b.ent.take k)))]) _ 0 rfl hcl [1,5,58,59] rfl ⟨yah _,fun i hi=>absurd hi (Nat.not_lt_zero i)⟩ ⟨⟨_,rfl,yae _⟩,trivial⟩ rfl (fun _ _=>rfl) ?_
 rintro k ⟨hk,hok⟩
 rcases yag k b.ent.length with hlt|hge
 ·have e0:okE b k=(zcg (b.ent.getD k ent0).stu&&(isDay (b.ent.getD k ent0).day&&((k==0 || !decide ((b.ent.getD k ent0).day<(b.ent.getD (k-1) ent0).day))&&((za3 b (b.ent.getD k ent0).exe (b.ent.getD k ent0).day).isSome &&
    ((zcc ((za3 b (b.ent.getD k ent0).exe (b.ent.getD k ent0).day).getD ver0).sch (b.ent.getD k ent0).work).2==0&&((b.ent.getD k ent0).work.att==(cntK (b.ent.take (k+1)) (keyOf (b.ent.getD k ent0)):Nat))))))):=rfl
  have hts:=take_snoc b.ent ent0 k hlt
  have hgr:=fun H=>grade_c ((za3 b (b.ent.getD k ent0).exe (b.ent.getD k ent0).day).getD ver0).sch (b.ent.getD k ent0).work H
  have hif:=fun H=>hif (b.ent.getD k ent0).exe (b.ent.getD k ent0).day H
  have hent:=entK (keysF (b.ent.take k)) (zd7 _) (cntA (b.ent.take k)) (cntA (b.ent.take (k+1))) (.int .i64 0) (keyOf (b.ent.getD k ent0)) (fun q _ hq=>by
   unfold cntA cntK
   rw [hts,zf3,if_neg (ycq hq)]) (fun hq=>by
   unfold cntA cntK
   rw [ofK_nil hq]
   rfl)
  have hcnt:cntK (b.ent.take (k+1)) (keyOf (b.ent.getD k ent0))=cntK (b.ent.take k) (keyOf (b.ent.getD k ent0))+1:=by
   unfold cntK
   rw [hts,zf3,if_pos rfl,ya5]
   rfl
  have hcl2:=zgn (b.ent.take k) (keyOf (b.ent.getD k ent0))
  rw [yce] at hcl2
  have hkf:insK (keysF (b.ent.take k)) (keyOf (b.ent.getD k ent0))=keysF (b.ent.take (k+1)):=by
   rw [hts,zeu]
  obtain ⟨j,vs1,q1,q2,q3,-,-,-,q4⟩:=hent
  obtain ⟨stu,exe,day,a1,a2,a3,a4,hv1⟩:=zc2 (b.ent.getD k ent0)
  obtain ⟨stu2,exe2,day2,b1,b2,b3,b4,hv2⟩:=zc2 (b.ent.getD (k-1) ent0)
  rw [hkf] at q1 q3 q4
  rw [hv1] at hif hgr q1 q3 q4 hcnt hcl2
  rw [hv1,hv2] at e0
  have e1:=zbn hv1
  have e2:=zbn hv2
  simp only [keyOf] at e0 hif hgr q1 q3 q4 hcnt hcl2
  have hlk:=lookK (zd7 (b.ent.take (k+1))) (c:=(exe,stu)) (j:=j)
  have hvk:∀ (ks:List Ky),ks[j]? = some (exe,stu)→(vsA ks (cntA (b.ent.take (k+1))))[j]? = some (.int .i64 (cntK (b.ent.take (k+1)) (exe,stu):Nat)):=fun ks h=>by simp [vsA,h,cntA]
  have hsk:eqV Tryz.kn Tryz.T 20 100 (.agg [.str exe,.str stu]) (.agg [.str exe,.str stu])=some true:=by
   exact (eqVK (exe,stu) (exe,stu)).trans (by simp)
  unfold cntA at q1 q3
  have hlk:=hlk q4
  have hvk:=hvk _ q4
  rw [hcnt] at e0 q3 hvk
  generalize cntK (b.ent.take k) (exe,stu)=c0 at *
  have hw:IntKind.i64.wrap ((c0:Nat)+1:Int)=((c0+1:Nat):Int):=by
   rw [IntKind.wrap_i64]
   omega
  generalize za3 b exe day=fo at *
  obtain ⟨f1,f2,f3,f4,f5,f6,f7,f8,hv3⟩:=zcr (fo.getD ver0)
  rw [hv3] at hgr hif e0
  simp only at hgr hif e0
  generalize hgf:zcc ⟨f2,f3,f4,f5,f6,f7,f8⟩ ⟨a1,a2,a3,a4⟩=gf at *
  obtain ⟨⟨m1,m2,m3,m4,m5⟩,er⟩:=gf
  unfold Sch.cells at hgr hif
  unfold Wrk.cells Mrk.cells at hgr
  simp only at hgr hif e0
  generalize hks1:ksA (keysF (b.ent.take (k+1)))=ks1 at *
  unfold keyC at q1 hlk
  simp only at q1 hlk
  rw [show (fun k_1=>AV.int IntKind.i64 ↑(cntK (b.ent.take (k+1)) k_1))=cntA (b.ent.take (k+1)) from rfl] at q3
  generalize hV:vsA (keysF (b.ent.take (k+1))) (cntA (b.ent.take (k+1)))=V at *
  (repeat' ((conv=>whnf);(first|(refine DrawN.mp 2 [] ?_;(conv=>whnf);refine yaf (by kernel_rfl) ?_;refine MpE.mk rfl rfl rfl rfl rfl rfl rfl rfl rfl rfl rfl rfl rfl rfl (by kernel_rfl) rfl rfl rfl rfl rfl rfl rfl hsk q1 q2 (.loc 1 rfl rfl rfl) (.eqv hw (.refl _)) (.refl _) (.loc 1 rfl rfl rfl) ?_;rw [q3])|(refine yai ?_;first|refine yas ?_|refine yar (by omega) ?_|refine zbq (fun _=>?_) (fun _=>?_)|(refine IfN.mk ?_ ?_ <;> intro _)|fail)|(refine ycp ?_;first|(refine zao _ _ Cst.h Cst.h ?_ ?_;· omega)|(refine zbi _ _ Cst.h Cst.h ?_ ?_;· omega)|fail)|(refine yaf ?_ ?_;· first|kernel_rfl|omega|exact yaa _ _|(simp;done)|(simp;omega)|exact trivial|assumption|fail)|(refine ybi ?_;first|refine yab _ (hif _) ?_|refine yab _ (hgr _) ?_|fail)|(refine ycc ?_;first|refine yan _ (fun _ hq X=>zbo _ _) ?_|refine yan _ (fun _ hq X=>zbh _ _) ?_|fail)|refine zai ent0 k rfl (by omega) za0 e1 ?_|refine zai ent0 (k-1) (by omega) (by omega) za0 e2 ?_|refine RelN.mk [.int .i64 ((c0+1:Nat):Int)] [] ⟨⟨_,hsk⟩,j,hlk,hvk⟩ ?_|refine yb6 _ rfl ?_|refine zab [] ?_|fail)));all_goals (conv=>whnf)
  all_goals first
   | (refine ya1 trivial (Wk.of_eq (congrArg AV.bool ?_))
      have hno:okE b k=false:=by simp_all;try omega
      have:=rng_no (n:=b.ent.length) (p:=okE b) hlt hno
      simp [zbm,this];done)
   | (have hyes:okE b k=true:=by simp_all;try omega
      subst hks1 hV
      (refine ⟨⟨k+1,⟨by omega,fun i hi=>by
       rcases yag i k with h|h
       ·exact hok i h
       ·have:i=k:=by omega
        exact this▸hyes⟩,by omega,?_,.inl ⟨rfl,rfl⟩,rfl,_,rfl,?_⟩⟩;rotate_left 1;(first|exact .inl rfl|exact .inr ⟨by simp [zau,below,zac,tr,zae,zah,zag,zam,zak,zal,zaf,za8,za7],by simp [za5,Blk.below,zac,below,zae,zah,zag,zam,zak,zal,zaf,za8,za7]⟩|fail);(repeat' (first|exact trivial|refine ⟨⟨_,rfl,?_⟩,?_⟩|fail));all_goals try (first|exact yae _|exact Wk.of_eq (congrArg (AV.int _) (by omega))|fail)))
   | fail
 ·(repeat' ((conv=>whnf);(first|refine zat (by omega) ?_|refine zab [] ?_|fail)));all_goals (conv=>whnf)
  refine ya1 trivial (Wk.of_eq (congrArg AV.bool ?_))
  have h2:=rng_yes (n:=b.ent.length) (p:=okE b) fun i hi=>hok i (by omega)
  have h3:decide (b.ser.length≤40)=true:=decide_eq_true (by omega)
  have h4:decide (b.ent.length≤2000)=true:=decide_eq_true (by omega)
  simp [zbm,h1,h2,h3,h4]
def selF (l:List Ent) (d:Int):List Ent:=l.filter fun e=>decide (e.day≤d)
theorem selF_snoc (l:List Ent) (e:Ent) (d:Int):selF (l++[e]) d=if e.day≤d then selF l d++[e] else selF l d:=by
 unfold selF
 rw [List.filter_append]
 by_cases h:e.day≤d
 ·simp [h]
 ·simp [h]
def wrkC (l:List Ent) (k:Ky):List AV:=((ofK l k).map Ent.work).flatMap Wrk.cells
theorem wrk_size (w:Wrk):w.cells.length=4:=rfl
theorem za1 (n:Nat) (w:Wrk):zac n w.cells:=by simp [Wrk.cells,zac,below]
theorem wrkC_below (n:Nat) (l:List Ent) (k:Ky):zac n (wrkC l k):=zcn _ (za1 n)
theorem wrkC_len (l:List Ent) (k:Ky):(wrkC l k).length=cntK l k * 4:=by
 unfold wrkC cntK
 rw [zav wrk_size,yav]
theorem wrkC_snoc (l:List Ent) (e:Ent):wrkC (l++[e]) (keyOf e)=wrkC l (keyOf e)++e.work.cells:=by
 unfold wrkC
 rw [zf3,if_pos rfl]
 simp
theorem wrkC_other (l:List Ent) (e:Ent) {k:Ky} (h:k≠keyOf e):wrkC (l++[e]) k=wrkC l k:=by
 unfold wrkC
 rw [zf3,if_neg (ycq h)]
theorem zfw (l:List Ent) (e:Ent):cntK (l++[e]) (keyOf e)=cntK l (keyOf e)+1:=by
 unfold cntK
 rw [zf3,if_pos rfl]
 simp
theorem zew (l:List Ent) (e:Ent) {k:Ky} (h:k≠keyOf e):cntK (l++[e]) k=cntK l k:=by
 unfold cntK
 rw [zf3,if_neg (ycq h)]
def wvA (n0:Nat) (pos:Ky→Nat) (l:List Ent) (k:Ky):AV:=if (keysF l).any (eqK k) then .sl (some (n0+2+pos k)) (cntK l k) (wrkC l k) else .nils
def wfA (l:List Ent) (k:Ky):AV:=.sl none (cntK l k) (wrkC l k)
theorem zgt {n0:Nat} {pos:Ky→Nat} {l:List Ent} {k:Ky} (h:k∈keysF l):wvA n0 pos l k=.sl (some (n0+2+pos k)) (cntK l k) (wrkC l k):=by
 unfold wvA
 rw [if_pos (any_eqK.2 h)]
theorem wvA_new {n0:Nat} {pos:Ky→Nat} {l:List Ent} {k:Ky} (h:k ∉ keysF l):wvA n0 pos l k=.nils:=by
 unfold wvA
 rw [if_neg (fun q=>h (any_eqK.1 q))]
theorem zf8 {n:Nat}:∀ {l:Heap},(∀ B∈l,B.below n)→za5 n l
 | [],_=>trivial
 | B::l,h=>⟨h B ybc,zf8 fun C hC=>h C (ya4 _ hC)⟩
theorem zc9 {n:Nat}:∀ {l:Heap},za5 n l→∀ B∈l,B.below n
 | [],_,_,h=>by cases h
 | B::l,h,C,hC=>by
   rcases yay.1 hC with rfl|h2
   ·exact h.1
   ·exact zc9 h.2 C h2
theorem mem_set {α:Type} {l:List α} {i:Nat} {a b:α} (h:a∈l.set i b):a∈l∨a=b:=by
 rcases List.mem_or_eq_of_mem_set h with h|h
 ·exact .inl h
 ·exact .inr h
theorem set3 (H X:Heap) (a b M T M2:Blk) (p:Nat):(((H++([a,b]++X)).set (H.length+1) M).set (H.length+2+p) T).set (H.length+1) M2=H++([a,M2]++X.set p T):=by
 rw [zb8,show H.length+2+p=H.length+(2+p) by omega,zb8,zb8,show 2+p=(p+1)+1 by omega]
 rfl
theorem set2 (H X:Heap) (a b M M2:Blk):((H++([a,b]++X)).set (H.length+1) M).set (H.length+1) M2=H++([a,M2]++X):=by
 rw [zb8,zb8]
 rfl
structure WkS where
 k:Nat
 X:Heap
 pos:Ky→Nat
def WkS.L (b:Bk) (d:Int) (n0:Nat) (s:WkS):Heap:=[.box 25 b.cells,.mp (ksA (keysF (selF (b.ent.take s.k) d))) (vsA (keysF (selF (b.ent.take s.k) d)) (wvA n0 s.pos (selF (b.ent.take s.k) d)))]++s.X
structure WkS.Ok (b:Bk) (d:Int) (n0:Nat) (s:WkS):Prop where
 le:s.k≤b.ent.length
 low:za5 (n0+2+s.X.length) s.X
 tok:∀ k∈keysF (selF (b.ent.take s.k) d),s.X[s.pos k]? = some (.tok 78 4 (cntK (selF (b.ent.take s.k) d) k * 4))
 inj:∀ k1∈keysF (selF (b.ent.take s.k) d),∀ k2∈keysF (selF (b.ent.take s.k) d),s.pos k1=s.pos k2→k1=k2
theorem vers_mem_below {l:List Blk} {n m:Nat} (h:za5 n l) (hnm:n≤m):za5 m l:=zf8 fun B hB=>Blk.below_mono hnm (zc9 h B hB)
theorem WkS.Ok.below {b:Bk} {d:Int} {n0:Nat} {s:WkS} (h:s.Ok b d n0):za5 (n0+(s.L b d n0).length) (s.L b d n0):=by
 have hl:(s.L b d n0).length=2+s.X.length:=by simp [WkS.L];omega
 rw [hl]
 refine ⟨?_,⟨za8 _ _,zfh _ _ _ fun k hk=>?_⟩,?_⟩
 ·simp [Blk.below,zac,Vsi.below,Bk.cells,zae,zag]
 ·rw [zgt hk]
  refine ⟨fun t e=>?_,wrkC_below _ _ _⟩
  cases e
  have:=(yac.1 (h.tok k hk)).1
  omega
 ·exact vers_mem_below h.low (by omega)
theorem frz_wv (n0:Nat) (loc:Heap) (pos:Ky→Nat) (l:List Ent):∀ ks:List Ky,(∀ k∈ks,k∈keysF l)→FrzL n0 loc (vsA ks (wvA n0 pos l)) (vsA ks (wfA l))
 | [],_=>.nil
 | k::ks,h=>.cons (by
    show Frz n0 loc (wvA n0 pos l k) _
    rw [zgt (h k ybc)]
    exact .sl (yda _)) (frz_wv n0 loc pos l ks fun q hq=>h q (ya4 _ hq))
theorem works_c (b:Bk) (hb:b.Sm) (he:b.ent.length≤1000000) (d:Int) (H:Heap):VDet Tryz.prog 33 [.agg b.cells,.int .i64 d] H (.rmp (ksA (keysF (selF b.ent d))) (vsA (keysF (selF b.ent d)) (wfA (selF b.ent d)))):=by
 have hcb:b.cells=[.sl none b.ser.length (b.ser.flatMap Ser.cells),.sl none b.ent.length (b.ent.flatMap Ent.cells)]:=rfl
 have hL0:([.box 25 [.sl none b.ser.length (b.ser.flatMap Ser.cells),.sl none b.ent.length (b.ent.flatMap Ent.cells)],.mp [] []]:Heap)=(⟨0,[],fun _=>0⟩:WkS).L b d H.length:=rfl
 refine zap Tryz.E0 zad Tryz.func33 (by kernel_rfl) rfl (ybv rfl) rfl fun hcl hbl=>?_
 rw [hcb]
 (repeat' ((conv=>whnf);(first|refine zab [] ?_|fail)));all_goals (conv=>whnf)
 refine loop_X Tryz.E0 zad (σ:=WkS) (WkS.Ok b d H.length) (fun s=>b.ent.length-s.k) (fun s=>[(13,.v (.int .i64 s.k))]) (WkS.L b d H.length) _ ⟨0,[],fun _=>0⟩ rfl hcl [1,5,11,12] rfl ⟨yah _,trivial,(fun k hk=>by simp [selF,keysF] at hk),(fun k hk=>by simp [selF,keysF] at hk)⟩ ⟨⟨_,rfl,yae _⟩,trivial⟩ hL0 (fun s _=>by simp [WkS.L]) ?_
 rintro ⟨k,X,pos⟩ ⟨hk,hlow,htok,hinj⟩
 simp only at hk hlow htok hinj
 have hpk:(((⟨k,X,pos⟩:WkS).k:Nat):Int)=(k:Int):=rfl
 rcases yag k b.ent.length with hlt|hge
 ·have hts:=take_snoc b.ent ent0 k hlt
  obtain ⟨stu,exe,day,a1,a2,a3,a4,hv1⟩:=zc2 (b.ent.getD k ent0)
  have e1:=zbn hv1
  rw [hv1] at hts
  by_cases hd:day≤d
  ·have hsel:selF (b.ent.take (k+1)) d=selF (b.ent.take k) d++[⟨stu,exe,day,⟨a1,a2,a3,a4⟩⟩]:=by
     rw [hts,selF_snoc,if_pos hd]
   have hkk:keysF (selF (b.ent.take (k+1)) d)=insK (keysF (selF (b.ent.take k) d)) (exe,stu):=by
    rw [hsel,zeu]
    rfl
   have hcn:cntK (selF (b.ent.take k) d) (exe,stu)≤1000000:=by
    have h1:=zgn (selF (b.ent.take k) d) (exe,stu)
    have h2:(selF (b.ent.take k) d).length≤(b.ent.take k).length:=List.length_filter_le _ _
    rw [yce] at h2
    omega
   have hnd:=zd7 (selF (b.ent.take k) d)
   have hcs:cntK (selF (b.ent.take (k+1)) d) (exe,stu)=cntK (selF (b.ent.take k) d) (exe,stu)+1:=by
    rw [hsel]
    exact zfw _ _
   have hws:wrkC (selF (b.ent.take (k+1)) d) (exe,stu)=wrkC (selF (b.ent.take k) d) (exe,stu)++[.int .i64 a1,.int .i64 a2,.int .i64 a3,.int .i64 a4]:=by
    rw [hsel]
    exact wrkC_snoc _ _
   have hco:∀ q,q≠(exe,stu)→cntK (selF (b.ent.take (k+1)) d) q=cntK (selF (b.ent.take k) d) q:=fun q hq=>by
    rw [hsel]
    exact zew _ _ hq
   have hwo:∀ q,q≠(exe,stu)→wrkC (selF (b.ent.take (k+1)) d) q=wrkC (selF (b.ent.take k) d) q:=fun q hq=>by
    rw [hsel]
    exact wrkC_other _ _ hq
   have hwl:=wrkC_len (selF (b.ent.take k) d) (exe,stu)
   have hsk:eqV Tryz.kn Tryz.T 20 100 (.agg [.str exe,.str stu]) (.agg [.str exe,.str stu])=some true:=(eqVK (exe,stu) (exe,stu)).trans (by simp)
   have hLk:WkS.L b d H.length ⟨k,X,pos⟩=[.box 25 b.cells,.mp (ksA (keysF (selF (b.ent.take k) d))) (vsA (keysF (selF (b.ent.take k) d)) (wvA H.length pos (selF (b.ent.take k) d)))]++X:=rfl
   by_cases hin:(exe,stu)∈keysF (selF (b.ent.take k) d)
   ·obtain ⟨j,vs1,q1,q2,q3,-,-,-,-⟩:=entK (keysF (selF (b.ent.take k) d)) hnd (wvA H.length pos (selF (b.ent.take k) d)) (wvA H.length pos (selF (b.ent.take (k+1)) d)) .nils (exe,stu) (fun q hq1 hq2=>by
      rw [zgt hq1,zgt (by rw [hkk];exact mem_insK.2 (.inl hq1)),hco q hq2,hwo q hq2]) (fun h=>absurd hin h)
    rw [zgt hin] at q1
    rw [zgt (by rw [hkk];exact mem_insK.2 (.inr rfl)),hcs,hws] at q3
    have htk:=htok _ hin
    have hpl:=(yac.1 htk).1
    unfold keyC at q1
    simp only at q1
    rw [← hkk] at q1 q3
    have htA:∀ M,((H++WkS.L b d H.length ⟨k,X,pos⟩).set (H.length+(0+1)) M)[H.length+2+pos (exe,stu)]? = some (.tok 78 4 (wrkC (selF (b.ent.take k) d) (exe,stu)).length):=fun M=>by
     rw [hwl,← htk,hLk,show H.length+2+pos (exe,stu)=H.length+((pos (exe,stu)+1)+1) by omega,zb8,yam (by omega),ybk]
     rfl
    have hmA:∀ M T,(((H++WkS.L b d H.length ⟨k,X,pos⟩).set (H.length+(0+1)) M).set (H.length+2+pos (exe,stu)) T)[H.length+(0+1)]? = some M:=fun M T=>by
     rw [ydb (by omega),List.getElem?_set_self]
     rw [hLk]
     simp
    have hm0:(H++WkS.L b d H.length ⟨k,X,pos⟩)[H.length+(0+1)]? = some (.mp (ksA (keysF (selF (b.ent.take k) d))) (vsA (keysF (selF (b.ent.take k) d)) (wvA H.length pos (selF (b.ent.take k) d)))):=zbk rfl
    have hfin:∀ M T M2,((((H++WkS.L b d H.length ⟨k,X,pos⟩).set (H.length+(0+1)) M).set (H.length+2+pos (exe,stu)) T).set (H.length+(0+1)) M2)=H++([.box 25 b.cells,M2]++X.set (pos (exe,stu)) T):=fun M T M2=>set3 H X _ _ M T M2 _
    generalize wrkC (selF (b.ent.take k) d) (exe,stu)=wc at *
    generalize cntK (selF (b.ent.take k) d) (exe,stu)=c0 at *
    have hbt:(c0+1) * 32≤140737488355328:=by omega
    have hmx:c0+1≤maxLen:=ybg (show c0+1≤1000001 by omega) (by decide)
    (repeat' ((conv=>whnf);(first|refine yar (by omega) ?_|(refine zao _ _ Cst.h Cst.h ?_ ?_;· omega)|(refine yaf ?_ ?_;· first|kernel_rfl|omega|exact yaa _ _|(simp;done)|(simp;omega)|exact trivial|assumption|fail)|refine SetN.mk _ rfl ?_|refine NatN.mk _ rfl ?_|refine zai ent0 k rfl (by omega) za0 e1 ?_|refine RelN.mk _ _ ⟨⟨_,hsk⟩,q1⟩ ?_|refine yb9 _ hm0 ?_|refine yb9 _ (htA _) ?_|refine yb9 _ (hmA _ _) ?_|refine yaf ⟨rfl,rfl,rfl,hbt,hmx⟩ ?_|refine zab [] ?_|fail)));all_goals (conv=>whnf)
    have hlen:(wc++[AV.int IntKind.i64 a1,AV.int IntKind.i64 a2,AV.int IntKind.i64 a3,AV.int IntKind.i64 a4]).length=(c0+1) * 4:=by simp [hwl];omega
    have hok:(⟨k+1,X.set (pos (exe,stu)) (.tok 78 4 (wc++[AV.int IntKind.i64 a1,AV.int IntKind.i64 a2,AV.int IntKind.i64 a3,AV.int IntKind.i64 a4]).length),pos⟩:WkS).Ok b d H.length:=by
     refine ⟨by show k+1≤_;omega,zf8 fun B hB=>?_,fun q hq=>?_,fun q1 h1 q2 h2=>?_⟩
     ·simp only [List.length_set]
      rcases mem_set hB with h|rfl
      ·exact zc9 hlow B h
      ·trivial
     ·simp only at hq ⊢
      rw [hkk,insK_in hin] at hq
      rw [yaw]
      by_cases hqc:pos (exe,stu)=pos q
      ·have:=hinj _ hin _ hq hqc
       subst this
       rw [if_pos rfl,if_pos hpl,hcs,hlen]
      ·rw [if_neg hqc,htok q hq,hco q (fun e=>hqc (by rw [e]))]
     ·simp only at h1 h2
      rw [hkk,insK_in hin] at h1 h2
      exact hinj q1 h1 q2 h2
    exact ⟨⟨_,hok,by show b.ent.length-(k+1)<b.ent.length-k;omega,⟨⟨_,rfl,yae _⟩,trivial⟩,.inl ⟨rfl,rfl⟩,_,.of_eq (congrArg (fun l=>l++_) ((hfin _ _ _).trans (by simp only [WkS.L];rw [q3]))),.inr ⟨by simp [zau,below,tr],hok.below⟩⟩⟩
   ·obtain ⟨j,vs1,q1,q2,q3,-,-,-,-⟩:=entK (keysF (selF (b.ent.take k) d)) hnd (wvA H.length pos (selF (b.ent.take k) d)) (wvA H.length (fun q=>if eqK q (exe,stu) then X.length+2 else pos q) (selF (b.ent.take (k+1)) d)) .nils (exe,stu) (fun q hq1 hq2=>by
      have hne:eqK q (exe,stu)=false:=by
       cases h:eqK q (exe,stu) with
       | false=>rfl
       | true=>exact absurd (eqK_iff.1 h) hq2
      rw [zgt hq1,zgt (by rw [hkk];exact mem_insK.2 (.inl hq1)),hco q hq2,hwo q hq2]
      simp [hne]) (fun h=>wvA_new h)
    rw [wvA_new hin] at q1
    have hc0:cntK (selF (b.ent.take k) d) (exe,stu)=0:=by unfold cntK;rw [ofK_nil hin];rfl
    have hw0:wrkC (selF (b.ent.take k) d) (exe,stu)=[]:=by unfold wrkC;rw [ofK_nil hin];rfl
    have hlL:(WkS.L b d H.length ⟨k,X,pos⟩).length=X.length+2:=by simp [hLk]
    rw [zgt (by rw [hkk];exact mem_insK.2 (.inr rfl)),hcs,hws,hc0,hw0] at q3
    simp only [ze7,if_true,ydg] at q3
    have hidx:H.length+2+(X.length+2)=H.length+(WkS.L b d H.length ⟨k,X,pos⟩).length+(0+1+1):=by omega
    rw [hidx] at q3
    unfold keyC at q1
    simp only at q1
    rw [← hkk] at q1 q3
    have hmA:∀ M,((H++WkS.L b d H.length ⟨k,X,pos⟩).set (H.length+(0+1)) M)[H.length+(0+1)]? = some M:=fun M=>by
     rw [List.getElem?_set_self]
     rw [hLk]
     simp
    have hm0:(H++WkS.L b d H.length ⟨k,X,pos⟩)[H.length+(0+1)]? = some (.mp (ksA (keysF (selF (b.ent.take k) d))) (vsA (keysF (selF (b.ent.take k) d)) (wvA H.length pos (selF (b.ent.take k) d)))):=zbk rfl
    have hfin:∀ M M2,(((H++WkS.L b d H.length ⟨k,X,pos⟩).set (H.length+(0+1)) M).set (H.length+(0+1)) M2)=H++([.box 25 b.cells,M2]++X):=fun M M2=>set2 H X _ _ M M2
    (repeat' ((conv=>whnf);(first|refine yar (by omega) ?_|(refine zao _ _ Cst.h Cst.h ?_ ?_;· omega)|(refine yaf ?_ ?_;· first|kernel_rfl|omega|exact yaa _ _|(simp;done)|(simp;omega)|exact trivial|assumption|fail)|refine SetN.mk _ rfl ?_|refine NatN.mk _ rfl ?_|refine zai ent0 k rfl (by omega) za0 e1 ?_|refine RelN.mk _ _ ⟨⟨_,hsk⟩,q1⟩ ?_|refine yb9 _ hm0 ?_|refine yb9 _ (hmA _) ?_|refine OrN.l ?_|refine yaf ⟨by decide,rfl,rfl,by decide,by decide⟩ ?_|refine zab [] ?_|fail)));all_goals (conv=>whnf)
    have hok:(⟨k+1,X++[.box 80 [.str stu,.str exe,.int .i64 day,.int .i64 a1,.int .i64 a2,.int .i64 a3,.int .i64 a4],.box 100 [.str exe,.str stu],.tok 78 4 4],fun q=>if eqK q (exe,stu) then X.length+2 else pos q⟩:WkS).Ok b d H.length:=by
     have hlt2:∀ q∈keysF (selF (b.ent.take k) d),pos q<X.length:=fun q hq=>(yac.1 (htok q hq)).1
     have hne:∀ q∈keysF (selF (b.ent.take k) d),eqK q (exe,stu)=false:=fun q hq=>by
      cases h:eqK q (exe,stu) with
      | false=>rfl
      | true=>exact absurd (eqK_iff.1 h▸hq) hin
     refine ⟨by show k+1≤_;omega,zf8 fun B hB=>?_,fun q hq=>?_,fun q1 h1 q2 h2=>?_⟩
     ·simp only [ya5]
      rcases ybh.1 hB with h|h
      ·exact Blk.below_mono (by omega) (zc9 hlow B h)
      ·simp only [yay,ycu,or_false] at h
       rcases h with rfl|rfl|rfl
       ·simp [Blk.below,zac,below]
       ·simp [Blk.below,zac,below]
       ·trivial
     ·simp only at hq ⊢
      rw [hkk,zhb hin] at hq
      rcases ybh.1 hq with h|h
      ·rw [hne q h]
       simp only [ya9,if_false]
       rw [yaj (hlt2 q h),htok q h,hco q (fun e=>hin (e▸h))]
      ·simp only [yaz] at h
       subst h
       rw [ze7,hcs,hc0]
       simp only [if_true]
       rw [yam (by omega),ybk]
       rfl
     ·simp only at h1 h2 ⊢
      rw [hkk,zhb hin] at h1 h2
      rcases ybh.1 h1 with h1|h1 <;> rcases ybh.1 h2 with h2|h2
      ·rw [hne _ h1,hne _ h2]
       exact hinj q1 h1 q2 h2
      ·simp only [yaz] at h2
       subst h2
       rw [hne _ h1,ze7]
       simp only [if_true,ya9,if_false]
       intro e
       have:=hlt2 _ h1
       omega
      ·simp only [yaz] at h1
       subst h1
       rw [hne _ h2,ze7]
       simp only [if_true,ya9,if_false]
       intro e
       have:=hlt2 _ h2
       omega
      ·simp only [yaz] at h1 h2
       rw [h1,h2]
       exact fun _=>rfl
    exact ⟨⟨_,hok,by show b.ent.length-(k+1)<b.ent.length-k;omega,⟨⟨_,rfl,yae _⟩,trivial⟩,.inl ⟨rfl,rfl⟩,[],.of_eq (by
     rw [yat,hfin]
     simp only [WkS.L]
     rw [← q3]
     simp only [ybe]
     rfl),.inl rfl⟩⟩
  ·have hsel:selF (b.ent.take (k+1)) d=selF (b.ent.take k) d:=by
     rw [hts,selF_snoc,if_neg hd]
   (repeat' ((conv=>whnf);(first|(refine yai ?_;first|refine yar (by omega) ?_|refine zat (by omega) ?_|fail)|(refine zao _ _ Cst.h Cst.h ?_ ?_;· omega)|(refine yaf ?_ ?_;· first|kernel_rfl|omega|exact yaa _ _|(simp;done)|(simp;omega)|exact trivial|assumption|fail)|refine zai ent0 k rfl (by omega) za0 e1 ?_|refine zab [] ?_|fail)));all_goals (conv=>whnf)
   have hok:(⟨k+1,X,pos⟩:WkS).Ok b d H.length:=⟨by show k+1≤_;omega,hlow,by simp only;rw [hsel];exact htok,by simp only;rw [hsel];exact hinj⟩
   have heq:WkS.L b d H.length ⟨k,X,pos⟩=WkS.L b d H.length ⟨k+1,X,pos⟩:=by simp only [WkS.L,hsel]
   exact ⟨⟨⟨k+1,X,pos⟩,hok,by show b.ent.length-(k+1)<b.ent.length-k;omega,⟨⟨_,rfl,yae _⟩,trivial⟩,.inl ⟨rfl,rfl⟩,_,.of_eq (congrArg (fun l=>(H++l)++_) heq),.inr ⟨by simp [zau,below,tr],hok.below⟩⟩⟩
 ·have hkk:k=b.ent.length:=by omega
  subst hkk
  rw [ya2] at *
  (repeat' ((conv=>whnf);(first|refine zat (by omega) ?_|refine zab [] ?_|fail)));all_goals (conv=>whnf)
  refine LeftX.of _ rfl rfl ?_
  (repeat' ((conv=>whnf);(first|refine zab [] ?_|fail)));all_goals (conv=>whnf)
  refine ydc ⟨za8 _ _,zfh _ _ _ fun k _=>⟨fun _ e=>(nomatch e),wrkC_below _ _ _⟩⟩ (Frz.mp rfl (yda _) (frz_wv _ _ _ _ _ fun k hk=>hk)) (Wk.of_eq (by simp only [ya2]))
def andC (c d:Int):Int:=if c=0 then d else c
theorem or57_c (c d:Int) (H:Heap):VDet Tryz.prog 37 [.sx 2 [.int .i64 c,.int .i64 d]] H (.int .i64 (andC c d)):=by
 unfold andC
 refine zap Tryz.E0 zad Tryz.func37 (by kernel_rfl) rfl (ybv rfl) rfl fun hcl hbl=>?_
 conv=>whnf
 refine ybd Tryz.E0 zad 3 rfl ?_
 (repeat' ((conv=>whnf);(first|(refine yai ?_;first|refine yas ?_|refine yaq rfl ?_|refine yau rfl ?_|refine zbq (fun _=>?_) (fun _=>?_)|fail)|(refine zao _ _ Cst.h Cst.h ?_ ?_;· omega)|(refine yaf ?_ ?_;· first|omega|exact yaa _ _|fail)|refine SegN.mk _ (seg_rfl rfl) ?_|fail)));all_goals (conv=>whnf)
 all_goals exact ya1 trivial (Wk.of_eq (by simp_all))
def cKy (x y:Ky):Int:=andC (cmpS x.1 y.1) (cmpS x.2 y.2)
theorem clo56_c (a b c d:ByteArray) (p q:Int) (H:Heap):VDet Tryz.prog 36 [.agg [.str a,.str b,.int .i64 p],.agg [.str c,.str d,.int .i64 q]] H (.int .i64 (cKy (a,b) (c,d))):=by
 unfold cKy
 refine zap Tryz.E0 zad Tryz.func36 (by kernel_rfl) rfl (ybv rfl) rfl fun hcl hbl=>?_
 (repeat' ((conv=>whnf);(first|refine yaf (by kernel_rfl) ?_|(refine ycc ?_;first|refine yan _ (fun _ hq X=>cmpS_c _ _ _) ?_|refine yan _ (fun _ hq X=>or57_c _ _ _) ?_|fail)|refine zab [] ?_|refine OrN.l ?_|fail)));conv=>whnf
 exact eT trivial
theorem world_grow {w w':World} (hs:w.heap.size≤w'.heap.size) (hsame:∀ b,b<w.heap.size→w'.heap[b]? = w.heap[b]?) (h1:w'.os=w.os) (h2:w'.tape=w.tape) (h3:w'.output=w.output) (h4:w.drawn≤w'.drawn) :
  ∃ q os,w'=Go.Sort.grow (w.drewN q) os:=by
 refine ⟨w'.drawn-w.drawn,w'.heap.extract w.heap.size w'.heap.size,?_⟩
 obtain ⟨heap,tape,drawn,os,output⟩:=w
 obtain ⟨heap',tape',drawn',os',output'⟩:=w'
 simp only at hs hsame h1 h2 h3 h4
 subst h1 h2 h3
 unfold Go.Sort.grow World.drewN
 simp only [World.mk.injEq,true_and,and_true]
 refine ⟨?_,by omega⟩
 apply Array.ext_getElem?
 intro b
 rw [Array.getElem?_append]
 split
 ·rename_i hb
  exact hsame b hb
 ·rename_i hb
  rw [Array.getElem?_extract]
  by_cases hb2:b<heap'.size
  ·rw [if_pos (by omega)]
   congr 1
   omega
  ·rw [if_neg (by omega),Array.getElem?_eq_none (by omega)]
theorem calls_of {F:FuncId} {avs:List AV} {v:AV} (h:VDet Tryz.prog F avs [] v) (W:World) (xs:Array Value) (hx:LRel G.none W avs xs.toList):Calls Tryz.prog F xs W fun e w'=>∃ c,e=.returned c∧(∃ g,VRel g w' v c)∧∃ q os,w'=Go.Sort.grow (W.drewN q) os:=by
 have hh:HRel G.none W (Hp.of []):=hrel_none W fun p hp=>(ycu hp).elim
 unfold VDet VPure VCall at h
 refine (h.2 G.none W xs hh hx).mono ?_
 rintro e w' ⟨r,H',g',c,rfl,⟨rfl,rfl⟩,-,hv,hX⟩
 exact ⟨c,rfl,⟨g',hv⟩,world_grow hX.size (fun b hb=>hX.same b hb fun _=>id) hX.os hX.tape hX.output hX.drawn⟩
theorem clo56_k (a b c d:ByteArray) (p q:Int) (W:World):Calls Tryz.prog 36 #[.agg #[.string a,.string b,.int .i64 p],.agg #[.string c,.string d,.int .i64 q]] W fun e w'=>e=.returned (.int .i64 (cKy (a,b) (c,d)))∧∃ q os',w'=Go.Sort.grow (W.drewN q) os':=by
 refine (calls_of (clo56_c a b c d p q []) W _ (by
  simp only [LRel,VRel]
  exact ⟨_,_,rfl,⟨_,rfl,_,_,rfl,rfl,_,_,rfl,rfl,_,_,rfl,rfl,rfl⟩,_,_,rfl,⟨_,rfl,_,_,rfl,rfl,_,_,rfl,rfl,_,_,rfl,rfl,rfl⟩,rfl⟩)).mono ?_
 rintro e w' ⟨v,rfl,⟨g,hv⟩,hw⟩
 simp only [VRel] at hv
 subst hv
 exact ⟨rfl,hw⟩
end
end Go.Proofs.YtgopbbkpcjgihaaGreat
namespace Go.Proofs.YtgopbbkpcjgihaaGreat
section
open Go.Shelf
def Tryz.sortf55_ren:Go.Shelf.Ren:=⟨fun|6=>35|15=>62|14=>61|28=>88|29=>89|20=>80|21=>81|22=>82|23=>83|24=>84|25=>85|26=>86|27=>87|46=>97|47=>98|48=>99|49=>100|50=>101|57=>104|n=>n,fun|22=>40|24=>105|25=>109|3=>3|39=>147|0=>0|53=>174|55=>176|4=>4|46=>168|45=>167|50=>128|5=>5|9=>9|66=>183|70=>161|76=>190|77=>122|n=>n,fun|n=>n⟩
theorem Tryz.sortf55:Go.Proofs.SlLaysF0.n6 Tryz.prog Tryz.sortf55_ren:={
 mixed:=by kernel_rfl
 f6:=⟨Tryz.f35.name,by decide,Tryz.func35.trans (congrArg some (by kernel_rfl))⟩
 f14:=⟨Tryz.f61.name,by decide,Tryz.func61.trans (congrArg some (by kernel_rfl))⟩
 f15:=Tryz.func62.trans (congrArg some (by kernel_rfl))
 f20:=⟨Tryz.f80.name,by decide,Tryz.func80.trans (congrArg some (by kernel_rfl))⟩
 f21:=⟨Tryz.f81.name,by decide,Tryz.func81.trans (congrArg some (by kernel_rfl))⟩
 f22:=⟨Tryz.f82.name,by decide,Tryz.func82.trans (congrArg some (by kernel_rfl))⟩
 f23:=⟨Tryz.f83.name,by decide,Tryz.func83.trans (congrArg some (by kernel_rfl))⟩
 f24:=⟨Tryz.f84.name,by decide,Tryz.func84.trans (congrArg some (by kernel_rfl))⟩
 f25:=⟨Tryz.f85.name,by decide,Tryz.func85.trans (congrArg some (by kernel_rfl))⟩
 f26:=⟨Tryz.f86.name,by decide,Tryz.func86.trans (congrArg some (by kernel_rfl))⟩
 f27:=⟨Tryz.f87.name,by decide,Tryz.func87.trans (congrArg some (by kernel_rfl))⟩
 f28:=Tryz.func88.trans (congrArg some (by kernel_rfl))
 f29:=Tryz.func89.trans (congrArg some (by kernel_rfl))
 f46:=⟨Tryz.f97.name,by decide,Tryz.func97.trans (congrArg some (by kernel_rfl))⟩
 f47:=Tryz.func98.trans (congrArg some (by kernel_rfl))
 f48:=Tryz.func99.trans (congrArg some (by kernel_rfl))
 f49:=⟨Tryz.f100.name,by decide,Tryz.func100.trans (congrArg some (by kernel_rfl))⟩
 f50:=⟨Tryz.f101.name,by decide,Tryz.func101.trans (congrArg some (by kernel_rfl))⟩
 f57:=⟨Tryz.f104.name,by decide,Tryz.func104.trans (congrArg some (by kernel_rfl))⟩
 t0:=Tryz.underlying0
 a0:=Tryz.isAgg0
 z0:=Tryz.sizeOf0
 v0:=Tryz.zeroValue0
 t3:=Tryz.underlying3
 a3:=Tryz.isAgg3
 z3:=Tryz.sizeOf3
 v3:=Tryz.zeroValue3
 t4:=Tryz.underlying4
 a4:=Tryz.isAgg4
 z4:=Tryz.sizeOf4
 v4:=Tryz.zeroValue4
 t5:=Tryz.underlying5
 a5:=Tryz.isAgg5
 z5:=Tryz.sizeOf5
 v5:=Tryz.zeroValue5
 t9:=Tryz.underlying9
 a9:=Tryz.isAgg9
 z9:=Tryz.sizeOf9
 v9:=Tryz.zeroValue9
 t22:=Tryz.underlying40
 a22:=Tryz.isAgg40
 z22:=Tryz.sizeOf40
 v22:=Tryz.zeroValue40
 t25:=Tryz.underlying109
 a25:=Tryz.isAgg109
 z25:=Tryz.sizeOf109
 v25:=Tryz.zeroValue109
 t39:=Tryz.underlying147
 a39:=Tryz.isAgg147
 z39:=Tryz.sizeOf147
 v39:=Tryz.zeroValue147
 t45:=Tryz.underlying167
 a45:=Tryz.isAgg167
 z45:=Tryz.sizeOf167
 v45:=Tryz.zeroValue167
 t46:=Tryz.underlying168
 a46:=Tryz.isAgg168
 z46:=Tryz.sizeOf168
 v46:=Tryz.zeroValue168
 t50:=Tryz.underlying128
 a50:=Tryz.isAgg128
 z50:=Tryz.sizeOf128
 v50:=Tryz.zeroValue128
 t53:=Tryz.underlying174
 a53:=Tryz.isAgg174
 z53:=Tryz.sizeOf174
 v53:=Tryz.zeroValue174
 t55:=Tryz.underlying176
 a55:=Tryz.isAgg176
 z55:=Tryz.sizeOf176
 v55:=Tryz.zeroValue176
 t66:=Tryz.underlying183
 a66:=Tryz.isAgg183
 z66:=Tryz.sizeOf183
 v66:=Tryz.zeroValue183
 t70:=Tryz.underlying161
 a70:=Tryz.isAgg161
 z70:=Tryz.sizeOf161
 v70:=Tryz.zeroValue161
 t76:=Tryz.underlying190
 a76:=Tryz.isAgg190
 z76:=Tryz.sizeOf190
 v76:=Tryz.zeroValue190
 t77:=Tryz.underlying122
 a77:=Tryz.isAgg122
 z77:=Tryz.sizeOf122
 v77:=Tryz.zeroValue122 }
end
end Go.Proofs.YtgopbbkpcjgihaaGreat
namespace Go.Proofs.YtgopbbkpcjgihaaGreat
open Go.Vsi
section
open Go.Shelf Go.RowKit Go.Sort
def cmpB (a b:ByteArray):Int:=if a.data.toList<b.data.toList then -1 else if b.data.toList<a.data.toList then 1 else 0
structure OrdAt {α:Type} (c:α→α→Int) (a:α):Prop where
 rng:∀ b,c a b=-1∨c a b=0∨c a b=1
 anti:∀ b,c b a=- c a b
 eq:∀ b,c a b=0→a=b
 refl:c a a=0
 tr:∀ b d,c a b≤0→c b d≤0→c a d≤0∧(c a d=0→c a b=0∧c b d=0)
theorem and_rng {c d:Int} (h1:c=-1∨c=0∨c=1) (h2:d=-1∨d=0∨d=1):andC c d=-1∨andC c d=0∨andC c d=1:=by
 unfold andC;split <;> assumption
theorem and_neg (c d:Int):andC (-c) (-d)=- andC c d:=by
 unfold andC
 by_cases h:c=0
 ·rw [if_pos h,if_pos (by omega)]
 ·rw [if_neg h,if_neg (by omega)]
theorem and_zero {c d:Int}:andC c d=0↔c=0∧d=0:=by
 unfold andC;split
 ·exact ⟨fun h=>⟨by assumption,h⟩,fun h=>h.2⟩
 ·exact ⟨fun h=>absurd h (by assumption),fun h=>h.1⟩
theorem and_tr {c1 c2 c3 d1 d2 d3:Int} (hc:c1≤0→c2≤0→c3≤0∧(c3=0→c1=0∧c2=0)) (hc0:c1=0→c2=0→c3=0) (hd:c1=0→c2=0→d1≤0→d2≤0→d3≤0∧(d3=0→d1=0∧d2=0)) (h1:andC c1 d1≤0) (h2:andC c2 d2≤0) :
  andC c3 d3≤0∧(andC c3 d3=0→andC c1 d1=0∧andC c2 d2=0):=by
 unfold andC at *
 by_cases e1:c1=0
 ·by_cases e2:c2=0
  ·have e3:=hc0 e1 e2
   rw [if_pos e1] at h1 ⊢
   rw [if_pos e2] at h2 ⊢
   rw [if_pos e3]
   exact hd e1 e2 h1 h2
  ·rw [if_pos e1] at h1 ⊢
   rw [if_neg e2] at h2 ⊢
   have:=hc (by omega) h2
   have e3:c3≠0:=fun h=>e2 (this.2 h).2
   rw [if_neg e3]
   exact ⟨this.1,fun h=>absurd h e3⟩
 ·rw [if_neg e1] at h1 ⊢
  have h2':c2≤0:=by
   by_cases e2:c2=0
   ·omega
   ·rw [if_neg e2] at h2;exact h2
  have:=hc h1 h2'
  have e3:c3≠0:=fun h=>e1 (this.2 h).1
  rw [if_neg e3]
  exact ⟨this.1,fun h=>absurd h e3⟩
theorem lt_asymmL {a b:List UInt8} (h:a<b):¬ b<a:=List.lt_asymm h
theorem cmpB_zero {a b:ByteArray}:cmpB a b=0↔a=b:=by
 constructor
 ·intro h
  unfold cmpB at h
  split at h
  ·cases h
  ·split at h
   ·cases h
   ·rename_i h1 h2
    have:a.data.toList=b.data.toList:=List.le_antisymm (List.not_lt.1 h2) (List.not_lt.1 h1)
    obtain ⟨⟨x⟩⟩:=a
    obtain ⟨⟨y⟩⟩:=b
    simp only at this
    rw [this]
 ·rintro rfl
  unfold cmpB
  rw [if_neg (List.lt_irrefl _),if_neg (List.lt_irrefl _)]
theorem cmpB_le {a b:ByteArray}:cmpB a b≤0↔a.data.toList≤b.data.toList:=by
 unfold cmpB
 constructor
 ·intro h
  split at h
  ·exact List.le_of_lt (by assumption)
  ·split at h
   ·omega
   ·exact List.not_lt.1 (by assumption)
 ·intro h
  split
  ·omega
  ·rw [if_neg (List.not_lt.2 h)]
   omega
theorem ordB (a:ByteArray):OrdAt cmpB a:=⟨fun b=>by unfold cmpB;split <;> (try split) <;> omega,fun b=>by
  unfold cmpB
  by_cases h1:a.data.toList<b.data.toList
  ·rw [if_neg (lt_asymmL h1),if_pos h1,if_pos h1]
   rfl
  ·rw [if_neg h1,if_neg h1]
   split <;> rfl,fun b h=>cmpB_zero.1 h,cmpB_zero.2 rfl,fun b d h1 h2=>by
 refine ⟨cmpB_le.2 (List.le_trans (cmpB_le.1 h1) (cmpB_le.1 h2)),fun h=>?_⟩
 obtain rfl:=cmpB_zero.1 h
 have:a=b:=by
  have h3:a.data.toList=b.data.toList:=List.le_antisymm (cmpB_le.1 h1) (cmpB_le.1 h2)
  obtain ⟨⟨x⟩⟩:=a
  obtain ⟨⟨y⟩⟩:=b
  simp only at h3
  rw [h3]
 subst this
 exact ⟨cmpB_zero.2 rfl,cmpB_zero.2 rfl⟩⟩
theorem ordP {α β:Type} {c:α→α→Int} {d:β→β→Int} {a:α} {b:β} (h1:OrdAt c a) (hr:∀ a,c a a=0) (h2:OrdAt d b):OrdAt (fun p q:α×β=>andC (c p.1 q.1) (d p.2 q.2)) (a,b) :=
 ⟨fun q=>and_rng (h1.rng _) (h2.rng _),fun q=>by
  show andC (c q.1 a) (d q.2 b)=- andC (c a q.1) (d b q.2)
  rw [h1.anti,h2.anti,and_neg],fun q h=>by
  obtain ⟨e1,e2⟩:=and_zero.1 h
  exact Prod.ext (h1.eq _ e1) (h2.eq _ e2),and_zero.2 ⟨h1.refl,h2.refl⟩,fun q r e1 e2=>and_tr (h1.tr _ _) (fun z1 z2=>by
   have:=h1.eq _ z1
   rw [this]
   exact z2) (fun z1 z2=>h2.tr _ _) e1 e2⟩
theorem bytesLess_lt:∀ a b:List UInt8,Op.bytesLess a b=decide (a<b)
 | [],[]=>rfl
 | [],b::m=>by simp [Op.bytesLess]
 | a::l,[]=>by simp [Op.bytesLess]
 | a::l,b::m=>by
   simp only [Op.bytesLess,bytesLess_lt l m]
   rw [yb5]
   simp [List.cons_lt_cons_iff]
theorem ltS_eq (s t:ByteArray):ltS s t=decide (s.data.toList<t.data.toList):=by
 unfold ltS
 rw [bytesLess_lt,ByteArray.toList_eq,ByteArray.toList_eq]
theorem cmpS_eq (s t:ByteArray):cmpS s t=cmpB s t:=by
 unfold cmpS cmpB
 rw [ltS_eq,eqS,ba_beq]
 by_cases h1:s.data.toList<t.data.toList
 ·simp [h1]
 ·by_cases h2:s=t
  ·subst h2
   simp [List.lt_irrefl]
  ·have h3:t.data.toList<s.data.toList:=by
     rcases Decidable.em (t.data.toList<s.data.toList) with h|h
     ·exact h
     ·exfalso
      apply h2
      have:s.data.toList=t.data.toList:=List.le_antisymm (List.not_lt.1 h) (List.not_lt.1 h1)
      obtain ⟨⟨x⟩⟩:=s
      obtain ⟨⟨y⟩⟩:=t
      simp only at this
      rw [this]
   simp [h1,h2,h3]
theorem ordKy (x:Ky):OrdAt cKy x:=by
 obtain ⟨a,b⟩:=x
 have h:=ordP (c:=cmpB) (d:=cmpB) (a:=a) (b:=b) (ordB a) (fun a=>(ordB a).refl) (ordB b)
 have e:cKy=fun p q:Ky=>andC (cmpB p.1 q.1) (cmpB p.2 q.2):=by
  funext p q
  unfold cKy
  rw [cmpS_eq,cmpS_eq]
 rw [e]
 exact h
theorem swoKy:SWO (ltOf cKy):=by
 have ha:∀ x y,cKy y x=- cKy x y:=fun x y=>(ordKy x).anti y
 refine ⟨fun x=>?_,fun x y z h1 h2=>?_,fun x y z h1 h2=>?_⟩
 ·unfold ltOf
  rw [(ordKy x).refl]
  rfl
 ·unfold ltOf at *
  simp only [decide_eq_true_eq] at *
  obtain ⟨q1,q2⟩:=(ordKy x).tr y z (by omega) (by omega)
  have:cKy x z≠0:=fun e=>by have:=(q2 e).1;omega
  omega
 ·unfold ltOf at *
  simp only [decide_eq_false_iff_not] at *
  have h3:=ha x y
  have h4:=ha y z
  obtain ⟨q1,-⟩:=(ordKy z).tr y x (by omega) (by omega)
  have h5:=ha x z
  omega
theorem totKy (x y:Ky) (h1:ltOf cKy x y=false) (h2:ltOf cKy y x=false):x=y:=by
 unfold ltOf at h1 h2
 simp only [decide_eq_false_iff_not] at h1 h2
 have:=(ordKy x).anti y
 exact (ordKy x).eq y (by omega)
def rowC (pts:Ky→Int) (k:Ky):List AV:=[.str k.1,.str k.2,.int .i64 (pts k)]
def rowV (pts:Ky→Int) (k:Ky):List Value:=[.string k.1,.string k.2,.int .i64 (pts k)]
theorem clo56_lays (pts:Ky→Int) (blk off size:Nat) (w:World):CmpLays Tryz.prog 36 #[] (rowV pts) 3 cKy blk off size w :=
 fun _ _ _ _ x y=>clo56_k x.1 x.2 y.1 y.2 (pts x) (pts y) _
def sortY (l:List Ky):List Ky:=l.mergeSort fun x y=>!(ltOf cKy) y x
theorem zdj (l:List Ky):(sortY l).Perm l:=List.mergeSort_perm l _
theorem zeq (l:List Ky):(sortY l).length=l.length:=(zdj l).length_eq
theorem zef (pts:Ky→Int) (l:List Ky):(l.flatMap (rowC pts)).length=l.length * 3:=by
 induction l with
 | nil=>rfl
 | cons x l ih=>rw [ya6,ya5,ih,List.length_cons];simp only [rowC,List.length_cons,List.length_nil];omega
theorem rowV_len (pts:Ky→Int) (l:List Ky):(l.flatMap (rowV pts)).length=l.length * 3:=by
 induction l with
 | nil=>rfl
 | cons x l ih=>rw [ya6,ya5,ih,List.length_cons];simp only [rowV,List.length_cons,List.length_nil];omega
theorem row_rel (pts:Ky→Int) (g:G) (w:World):∀ l:List Ky,LRel g w (l.flatMap (rowC pts)) (l.flatMap (rowV pts))
 | []=>by simp [LRel]
 | x::l=>by
   rw [ya6,ya6]
   refine LRel.append ?_ (row_rel pts g w l)
   simp [rowC,rowV,LRel,VRel]
theorem row_of {pts:Ky→Int} {g:G} {w:World}:∀ {l:List Ky} {cs:List Value},LRel g w (l.flatMap (rowC pts)) cs→cs=l.flatMap (rowV pts)
 | [],cs,h=>by simpa [LRel] using h
 | x::l,cs,h=>by
   rw [ya6] at h
   simp only [rowC,yci,ydg,LRel,VRel] at h
   obtain ⟨c,r,rfl,rfl,d,r2,rfl,rfl,e,r3,rfl,rfl,h⟩:=h
   rw [row_of h,ya6]
   rfl
theorem flat_get (pts:Ky→Int):∀ (l:List Ky) (t:Nat),t<l.length * 3→(l.flatMap (rowV pts))[t]! = ((rowV pts) l[t / 3]!)[t % 3]!
 | [],t,h=>by simp at h
 | x::l,t,h=>by
   rw [ya6]
   rcases yag t 3 with h2|h2
   ·have:t=0∨t=1∨t=2:=by omega
    rcases this with rfl|rfl|rfl <;> rfl
   ·obtain ⟨u,rfl⟩:∃ u,t=u+3:=⟨t-3,by omega⟩
    have e1:(u+3) / 3=u / 3+1:=by omega
    have e2:(u+3) % 3=u % 3:=by omega
    have ih:=flat_get pts l u (by simp at h;omega)
    rw [e1,e2]
    have:(rowV pts x++l.flatMap (rowV pts))[u+3]! = (l.flatMap (rowV pts))[u]! := rfl
    rw [this,ih]
    rfl
theorem flatK_eq (pts:Ky→Int) (l:List Ky):flatK (rowV pts) 3 l.toArray=(l.flatMap (rowV pts)).toArray:=by
 apply Array.ext
 ·rw [size_flatK,ybm,ybm,rowV_len]
 ·intro t h1 h2
  have ht:t<l.length * 3:=by simpa using h1
  have e1:=get_flatK (rowV pts) 3 l.toArray t (by simpa using ht)
  have e2:=flat_get pts l t ht
  rw [getElem!_pos _ t h1] at e1
  rw [e1]
  have e3:(l.flatMap (rowV pts))[t]! = (l.flatMap (rowV pts)).toArray[t]'h2:=by
   have:t<(l.flatMap (rowV pts)).length:=by simpa using h2
   rw [getElem!_pos _ t this]
   simp
  rw [← e3,e2]
  simp
theorem put_take (F cs:Array Value) (h:F.size≤cs.size):(putCells id 0 F cs).toList.take F.size=F.toList∧(putCells id 0 F cs).size=cs.size:=by
 refine ⟨?_,by simp [putCells]⟩
 apply ybn
 intro t
 rw [ybp]
 by_cases ht:t<F.size
 ·rw [if_pos ht]
  have h1:t<cs.size:=by omega
  simp [putCells,h1,ht]
 ·rw [if_neg ht,ycg (by simpa using ht)]
theorem sort55_c (H:Heap) (i:Nat) (pts:Ky→Int) (l:List Ky) (hl:l.length≤1000000000000) (hi:H[i]? = some (.vec 105 3 (l.flatMap (rowC pts)))) :
  VCall Tryz.prog 35 [.vs i l.length,.clo (.func 36) [] []] H (fun r H'=>r=.tup []∧H'=H.set i (.vec 105 3 ((sortY l).flatMap (rowC pts)))):=by
 refine ⟨⟨_,Tryz.func35,by kernel_rfl,rfl⟩,fun g w xs hH hL=>?_⟩
 simp only [LRel,VRel,fnG] at hL
 obtain ⟨c,r,has,⟨hok,hle,A,cap,rfl,hncap,hcur⟩,c2,r2,rfl,⟨-,f',c',rfl,hf',hc'⟩,rfl⟩:=hL
 have hf':f'=#[]:=by simpa using congrArg List.toArray hf'
 have hc':c'=#[]:=by simpa using congrArg List.toArray hc'
 have has:xs=#[.slice A l.length cap,.func (.func 36) f' c']:=by simpa using congrArg List.toArray has
 subst has hf' hc'
 have hat:Vsi.At (Hp.of H) i (.vec 105 3 (l.flatMap (rowC pts))):=by
  show (Hp.of H).all[i]? = _
  simpa [Hp.all,Hp.of] using hi
 obtain ⟨b1,b2,b3⟩:=hH.rel i _ hat
 obtain ⟨hA,hcap⟩:=hcur (by rw [b1,b2,zef])
 have hput:Put (Hp.of H) i (.vec 105 3 ((sortY l).flatMap (rowC pts))) (Hp.of (H.set i (.vec 105 3 ((sortY l).flatMap (rowC pts))))):=⟨by simp [Hp.all,Hp.of],by simp [Hp.of],rfl,rfl⟩
 rcases b3 with ⟨-,hl0,-⟩|⟨b,cs,hbase,hheap,hsize,hcm,hlen,hrel,hown⟩
 ·have hz:l=[]:=by
    have:=zef pts l
    rw [hl0] at this
    exact ya3 (by simp at this;omega)
  subst hz
  have hc:=AnyF.slices_SortFunc_none Tryz.sortf55 A cap (.func (.func 36) #[] #[]) w
  change Calls Tryz.prog 35 _ _ _ at hc
  refine hc.mono ?_
  rintro e w' ⟨rfl,rfl⟩
  have hset:H.set i (.vec 105 3 ((sortY []).flatMap (rowC pts)))=H:=by
   apply ybn
   intro j
   rw [yaw]
   by_cases hij:i=j
   ·subst hij
    have:=(yac.1 hi).1
    have hs0:sortY []=[]:=by unfold sortY;simp
    simp only [if_true,this]
    rw [hi,hs0]
   ·rw [if_neg hij]
  exact ⟨_,_,g,_,rfl,⟨rfl,rfl⟩,by rw [hset];exact hH,by simp [VRel,LRel],ycl _ _⟩
 ·rw [hbase] at hA
  simp only [ybb] at hA
  subst hA
  have hpre:=row_of hrel
  have hlen2:(l.flatMap (rowC pts)).length=l.length * 3:=zef pts l
  have hH2:HoldsK (rowV pts) 3 w b 0 l.toArray:=by
   unfold HoldsK
   rw [flatK_eq]
   intro j hj
   have hj2:j<l.length * 3:=by
    have:=rowV_len pts l
    simp only [ybm] at hj
    omega
   have hjc:j<cs.size:=by omega
   have hg:cs[j]? = some ((l.flatMap (rowV pts)).toArray[j]!):=by
    have h1:(cs.toList.take (l.flatMap (rowC pts)).length)[j]? = (l.flatMap (rowV pts))[j]? := by rw [hpre]
    rw [ybp,if_pos (by omega)] at h1
    have h2:(l.flatMap (rowV pts))[j]? = some ((l.flatMap (rowV pts)).toArray[j]!):=by
     have:j<(l.flatMap (rowV pts)).length:=by simpa using hj
     rw [getElem!_pos _ j hj]
     simp
    rw [h2] at h1
    simpa using h1
   refine ⟨cell_iff.2 ⟨cs,105,(0,0),hheap,by simpa using hg⟩,?_⟩
   simp [World.frozen?,hheap]
  have hc:=AnyQ.slices_SortFunc_total Tryz.sortf55 3 Tryz.isAgg105 Tryz.sizeOf105 (rowV pts) (fun _=>rfl) (fun x v hv=>by simp [rowV] at hv;rcases hv with rfl|rfl|rfl <;> rfl) cKy swoKy 36 #[] b 0 cap l.toArray w (enters_of Tryz.func36 (by kernel_rfl) rfl) (clo56_lays pts b 0 _ w) hH2 (zbc hheap) (by simp;omega) totKy
  change Calls Tryz.prog 35 _ _ _ at hc
  simp only [ybm] at hc
  refine hc.mono ?_
  rintro e w' ⟨rfl,q,os,rfl⟩
  have hsl:l.mergeSort (fun x y=>!(ltOf cKy) y x)=sortY l:=rfl
  rw [hsl]
  have hF:flatK (rowV pts) 3 (sortY l).toArray=((sortY l).flatMap (rowV pts)).toArray:=flatK_eq _ _
  have hFs:((sortY l).flatMap (rowV pts)).toArray.size≤cs.size:=by
   rw [ybm,rowV_len,zeq,← hlen2]
   exact hlen
  obtain ⟨p1,p2⟩:=put_take ((sortY l).flatMap (rowV pts)).toArray cs hFs
  have hw:∀ k,(sortWorldK (rowV pts) 3 w b 0 q (sortY l).toArray os).heap[k]? = if k<w.heap.size then (w.heap.modify b (onCells (putCells id 0 ((sortY l).flatMap (rowV pts)).toArray)))[k]? else (os[k-w.heap.size]?):=by
   intro k
   unfold sortWorldK putRowK putRow mapBlock grow Sort.ahead
   rw [hF]
   simp only [Array.getElem?_append,Array.size_modify]
  obtain ⟨hH3,hX⟩:=hH.setVec (w':=sortWorldK (rowV pts) 3 w b 0 q (sortY l).toArray os) (cs':=putCells id 0 ((sortY l).flatMap (rowV pts)).toArray cs) hat hbase hheap (by
    rw [hw,if_pos (zbc hheap),yb1,if_pos rfl,hheap]
    rfl) p2 (fun k hk hkb=>by
    rw [hw,if_pos hk,yb1,if_neg (ycq hkb)]) (size_sortWorldK_c (rowV pts) 3 w b 0 q _ os) rfl rfl rfl (ycz w.drawn q) (by
    have e1:((sortY l).flatMap (rowC pts)).length=((sortY l).flatMap (rowV pts)).toArray.size:=by rw [ybm,rowV_len,zef]
    rw [e1,p1]
    exact row_rel pts g w (sortY l)) (by rw [zef _,zef _,zeq]) hput
  exact ⟨_,_,g,_,rfl,⟨rfl,rfl⟩,hH3,by simp [VRel,LRel],hX⟩
end
theorem zfm {α:Type} (R:α→α→Prop) (tr:∀ a b c,R a b→R b c→R a c) (d:α):∀ (l:List α),(∀ i,i+1<l.length→R (l.getD i d) (l.getD (i+1) d))→l.Pairwise R
 | [],_=>List.Pairwise.nil
 | [x],_=>by simp
 | x::y::l,h=>by
   have ih:=zfm R tr d (y::l) fun i hi=>h (i+1) (by simpa using hi)
   refine List.Pairwise.cons (fun z hz=>?_) ih
   have h0:R x y:=h 0 (by simp)
   rcases yay.1 hz with rfl|hz
   ·exact h0
   ·exact tr x y z h0 ((List.pairwise_cons.1 ih).1 z hz)
theorem zg1 {α:Type} {R:α→α→Prop} {d:α} {l:List α} (h:l.Pairwise R) {i j:Nat} (hij:i<j) (hj:j<l.length):R (l.getD i d) (l.getD j d):=by
 rw [List.pairwise_iff_getElem] at h
 have:=h i j (by omega) hj hij
 simpa [ybl,yal hj,yal (show i<l.length by omega)] using this
theorem zfa {p:Nat→Bool} {n:Nat}:(List.range n).all p=true↔∀ i,i<n→p i=true:=by
 rw [yao]
 exact ⟨fun h i hi=>h i (ybo.2 hi),fun h i hi=>h i (ybo.1 hi)⟩
theorem zck {α:Type} {l:List α} {x:α} (d:α) (h:x∈l):∃ i,i<l.length∧l.getD i d=x:=by
 obtain ⟨i,hi,rfl⟩:=ydd h
 exact ⟨i,hi,by simp [ybl,yal hi]⟩
theorem zg7 {a b c:ByteArray} (h1:ltS a b=true) (h2:ltS b c=true):ltS a c=true:=by
 rw [ltS_eq,decide_eq_true_eq] at *
 exact List.lt_trans h1 h2
theorem ltS_irr (a:ByteArray):ltS a a=false:=by
 rw [ltS_eq,decide_eq_false_iff_not]
 exact List.lt_irrefl _
theorem ltS_tri {a b:ByteArray} (h1:ltS a b=false) (h2:ltS b a=false):a=b:=by
 have h3:cmpB a b=0:=by
  unfold cmpB
  rw [ltS_eq,decide_eq_false_iff_not] at *
  rw [if_neg h1,if_neg h2]
 exact cmpB_zero.1 h3
structure VV (l:List Ver):Prop where
 ne:1≤l.length
 le:l.length≤20
 day:∀ v∈l,isDay v.at_=true
 sch:∀ v∈l,zbv v.sch=true
 srt:l.Pairwise fun v w=>v.at_<w.at_
theorem versOK_iff {l:List Ver}:zfi l=true↔VV l:=by
 unfold zfi
 rw [yak,yak,decide_eq_true_eq,decide_eq_true_eq,zfa]
 constructor
 ·rintro ⟨h1,h2,h3⟩
  refine ⟨h1,h2,fun v hv=>?_,fun v hv=>?_,zfm (fun v w:Ver=>v.at_<w.at_) (fun a b c=>Int.lt_trans) ver0 l fun i hi=>?_⟩
  ·obtain ⟨i,hi,rfl⟩:=zck ver0 hv
   have:=h3 i hi
   simp only [okV,yak] at this
   exact this.1
  ·obtain ⟨i,hi,rfl⟩:=zck ver0 hv
   have:=h3 i hi
   simp only [okV,yak] at this
   exact this.2.2
  ·have:=h3 (i+1) hi
   simp only [okV,yak,Nat.add_sub_cancel] at this
   have h4:=this.2.1
   simp at h4
   exact h4
 ·rintro ⟨h1,h2,h3,h4,h5⟩
  refine ⟨h1,h2,fun i hi=>?_⟩
  simp only [okV,yak]
  refine ⟨h3 _ (zbb ver0 hi),?_,h4 _ (zbb ver0 hi)⟩
  cases i with
  | zero=>simp
  | succ i =>
    have:=zg1 (d:=ver0) h5 (Nat.lt_succ_self i) hi
    simp
    exact this
structure EV (b:Bk) (e:Ent):Prop where
 nm:zcg e.stu=true
 day:isDay e.day=true
 frc:(za3 b e.exe e.day).isSome=true
 wrk:zbr e.work=true
structure VB (b:Bk):Prop where
 ns:b.ser.length≤40
 ne:b.ent.length≤2000
 srt:b.ser.Pairwise fun s t=>ltS s.name t.name=true
 nm:∀ s∈b.ser,zcg s.name=true
 vs:∀ s∈b.ser,VV s.vers
 esrt:b.ent.Pairwise fun e f=>e.day≤f.day
 ent:∀ e∈b.ent,EV b e
 att:∀ i,i<b.ent.length→(b.ent.getD i ent0).work.att=(cntK (b.ent.take (i+1)) (keyOf (b.ent.getD i ent0)):Nat)
theorem zf5 {b:Bk} {ex:ByteArray} {d:Int} {v:Ver} (h:za3 b ex d=some v):∃ s∈b.ser,s.name=ex∧v∈s.vers∧v.at_≤d:=by
 unfold za3 verF at h
 obtain ⟨h1,h2⟩:=zdl h
 cases hs:serF b ex with
 | none =>
   rw [hs] at h1
   cases h1
 | some s =>
   rw [hs] at h1
   obtain ⟨h3,h4⟩:=zdl hs
   exact ⟨s,h3,eqS_iff.1 h4,h1,of_decide_eq_true h2⟩
theorem lastF_isSome {α:Type} {p:α→Bool} {l:List α}:(lastF p l).isSome=true↔∃ x∈l,p x=true:=by
 constructor
 ·intro h
  obtain ⟨x,hx⟩:=ycs.1 h
  exact ⟨x,zdl hx⟩
 ·rintro ⟨x,h1,h2⟩
  cases h:lastF p l with
  | some y=>rfl
  | none =>
    exfalso
    have key:∀ {l:List α},x∈l→lastF p l≠none:=by
     intro l
     induction l with
     | nil=>intro h;cases h
     | cons y l ih =>
       intro hx hn
       unfold lastF at hn
       rcases yay.1 hx with rfl|hx
       ·split at hn
        ·cases hn
        ·rw [if_pos h2] at hn
         cases hn
       ·split at hn
        ·cases hn
        ·exact ih hx (by assumption)
    exact key h1 h
theorem force_mono {b:Bk} {ex:ByteArray} {d d':Int} (h:(za3 b ex d).isSome=true) (hd:d≤d'):(za3 b ex d').isSome=true:=by
 unfold za3 verF at *
 rw [lastF_isSome] at *
 obtain ⟨v,h1,h2⟩:=h
 exact ⟨v,h1,decide_eq_true (Int.le_trans (of_decide_eq_true h2) hd)⟩
theorem grade_ok {s:Sch} {w:Wrk}:(zcc s w).2=0↔zbv s=true∧zbr w=true:=by
 unfold zcc
 split
 ·simp_all
 ·constructor
  ·intro h;cases h
  ·intro h;exact absurd h (by assumption)
theorem validF_iff {b:Bk}:zbm b=true↔VB b:=by
 unfold zbm
 rw [yak,yak,yak,decide_eq_true_eq,decide_eq_true_eq,zfa,zfa]
 constructor
 ·rintro ⟨h1,h2,h3,h4⟩
  have hv:∀ s∈b.ser,zcg s.name=true∧VV s.vers:=fun s hs=>by
   obtain ⟨i,hi,rfl⟩:=zck ser0 hs
   have:=h3 i hi
   simp only [okS,yak] at this
   exact ⟨this.1,versOK_iff.1 this.2.2⟩
  refine ⟨h1,h2,zfm (fun s t:Ser=>ltS s.name t.name=true) (fun a b c=>zg7) ser0 _ fun i hi=>?_,fun s hs=>(hv s hs).1,fun s hs=>(hv s hs).2,zfm (fun e f:Ent=>e.day≤f.day) (fun a b c=>Int.le_trans) ent0 _ fun i hi=>?_,fun e he=>?_,fun i hi=>?_⟩
  ·have:=h3 (i+1) hi
   simp only [okS,yak,Nat.add_sub_cancel] at this
   have h5:=this.2.1
   simp at h5
   exact h5
  ·have:=h4 (i+1) hi
   simp only [okE,yak,Nat.add_sub_cancel] at this
   have h5:=this.2.2.1
   simp at h5
   exact h5
  ·obtain ⟨i,hi,rfl⟩:=zck ent0 he
   have:=h4 i hi
   simp only [okE,yak,beq_iff_eq] at this
   exact ⟨this.1,this.2.1,this.2.2.2.1,(grade_ok.1 this.2.2.2.2.1).2⟩
  ·have:=h4 i hi
   simp only [okE,yak,beq_iff_eq] at this
   exact this.2.2.2.2.2
 ·rintro ⟨h1,h2,h3,h4,h5,h6,h7,h8⟩
  refine ⟨h1,h2,fun i hi=>?_,fun i hi=>?_⟩
  ·simp only [okS,yak]
   refine ⟨h4 _ (zbb ser0 hi),?_,versOK_iff.2 (h5 _ (zbb ser0 hi))⟩
   cases i with
   | zero=>simp
   | succ i =>
     have:=zg1 (d:=ser0) h3 (Nat.lt_succ_self i) hi
     simp
     exact this
  ·have he:=h7 _ (zbb ent0 hi)
   simp only [okE,yak,beq_iff_eq]
   refine ⟨he.nm,he.day,?_,he.frc,?_,h8 i hi⟩
   ·cases i with
    | zero=>simp
    | succ i =>
      have:=zg1 (d:=ent0) h6 (Nat.lt_succ_self i) hi
      simp
      exact this
   ·obtain ⟨v,hv⟩:=ycs.1 he.frc
    rw [hv]
    obtain ⟨s,q1,q2,q3,q4⟩:=zf5 hv
    exact grade_ok.2 ⟨(h5 s q1).sch v q3,he.wrk⟩
theorem VB.sm {b:Bk} (h:VB b):b.Sm:=⟨by have:=h.ns;omega,by have:=h.ne;omega,fun s hs=>by have:=(h.vs s hs).le;omega⟩
def wksF (b:Bk) (d:Int) (k:Ky):List Wrk:=(ofK (selF b.ent d) k).map Ent.work
def frcF (b:Bk) (ex:ByteArray) (d:Int):Sch:=((za3 b ex d).getD ver0).sch
def ptsF (b:Bk) (d:Int) (k:Ky):Int:=(zdc (frcF b k.1 d) (wksF b d k)).1
theorem cntK_100 {b:Bk} (h:VB b) (k:Ky):∀ n,n≤b.ent.length→cntK (b.ent.take n) k≤100:=by
 intro n
 induction n with
 | zero=>intro _;simp [cntK,ofK]
 | succ n ih =>
   intro hn
   have h1:=take_snoc b.ent ent0 n hn
   have h2:=h.att n hn
   have h3:=(zee (h.ent _ (zbb ent0 hn)).wrk).2.2.1
   rw [h1] at h2 ⊢
   by_cases hk:keyOf (b.ent.getD n ent0)=k
   ·rw [hk] at h2
    omega
   ·rw [zew _ _ (ycq hk)]
    exact ih (by omega)
theorem cntK_sub (l:List Ent) (d:Int) (k:Ky):cntK (selF l d) k≤cntK l k:=by
 unfold cntK ofK selF
 rw [List.filter_filter]
 have:(fun e=>eqK (keyOf e) k&&decide (e.day≤d))=fun e=>decide (e.day≤d)&&eqK (keyOf e) k:=by
  funext e
  rw [Bool.and_comm]
 rw [this,← List.filter_filter]
 exact List.length_filter_le _ _
theorem zft {b:Bk} (h:VB b) {ex:ByteArray} {d:Int} (hf:(za3 b ex d).isSome=true):zbv (frcF b ex d)=true:=by
 obtain ⟨v,hv⟩:=ycs.1 hf
 unfold frcF
 rw [hv]
 obtain ⟨s,q1,q2,q3,q4⟩:=zf5 hv
 exact (h.vs s q1).sch v q3
theorem sel_mem {l:List Ent} {d:Int} {e:Ent}:e∈selF l d↔e∈l∧e.day≤d:=by
 unfold selF
 rw [List.mem_filter,decide_eq_true_eq]
theorem wks_valid {b:Bk} (h:VB b) (d:Int) (k:Ky):∀ w∈wksF b d k,zbr w=true:=by
 intro w hw
 unfold wksF ofK at hw
 obtain ⟨e,he,rfl⟩:=ybq.1 hw
 exact (h.ent e (sel_mem.1 (List.mem_filter.1 he).1).1).wrk
theorem wks_len {b:Bk} (h:VB b) (d:Int) (k:Ky):(wksF b d k).length≤100:=by
 unfold wksF
 rw [yav]
 have h1:=cntK_sub b.ent d k
 have h2:=cntK_100 h k b.ent.length (yax _)
 rw [ya2] at h2
 exact ybg h1 h2
theorem zg9 {b:Bk} (h:VB b) {d:Int} {k:Ky} (hk:k∈keysF (selF b.ent d)):(za3 b k.1 d).isSome=true:=by
 obtain ⟨e,he,rfl⟩:=mem_keysF.1 hk
 obtain ⟨h1,h2⟩:=sel_mem.1 he
 exact force_mono (h.ent e h1).frc h2
theorem total_ok {b:Bk} (h:VB b) {d:Int} {k:Ky} (hk:k∈keysF (selF b.ent d)):(zdc (frcF b k.1 d) (wksF b d k)).2=0:=by
 have h1:=zft h (zg9 h hk)
 have h2:(wksF b d k).any (fun w=>!zbr w)=false:=by
  rw [List.any_eq_false]
  intro w hw
  simp [wks_valid h d k w hw]
 have h3:=wks_len h d k
 unfold zdc
 rw [if_pos ⟨h1,h2⟩,if_neg (by omega)]
 split <;> rfl
section
attribute [local irreducible] VW VCall VO bits
theorem zan (n:Nat) (pts:Ky→Int) (l:List Ky):zac n (l.flatMap (rowC pts)):=zcn _ fun k=>by simp [rowC,zac,below]
def repK (b:Bk) (d:Int):List Ky:=if zbm b&&isDay d then sortY (keysF (selF b.ent d)) else []
def repE (b:Bk) (d:Int):Int:=if zbm b&&isDay d then 0 else 2
theorem wfA_below (n:Nat) (l:List Ent) (ks:List Ky):zac n (vsA ks (wfA l)):=zfh n _ ks fun k _=>⟨fun _ e=>(nomatch e),wrkC_below _ _ _⟩
theorem zcy (pts:Ky→Int) (k:Ky):(rowC pts k).length=3:=rfl
theorem nodup_le {α:Type}:∀ {l m:List α},l.Nodup→(∀ e∈l,e∈m)→l.length≤m.length
 | [],_,_,_=>yah _
 | x::l,m,h,hs=>by
   obtain ⟨m1,m2,rfl⟩:=List.append_of_mem (hs x ybc)
   have h1:=List.nodup_cons.1 h
   have:=nodup_le (l:=l) (m:=m1++m2) h1.2 fun e he=>by
    rcases ybh.1 (hs e (ya4 _ he)) with q|q
    ·exact List.mem_append_left _ q
    ·rcases yay.1 q with rfl|q
     ·exact absurd he h1.1
     ·exact List.mem_append_right _ q
   simp at this ⊢
   omega
theorem nodup_lt {l:List Nat} {n:Nat} (h:l.Nodup) (hl:∀ e∈l,e<n):l.length≤n:=by
 have:=nodup_le (m:=List.range n) h fun e he=>ybo.2 (hl e he)
 simpa using this
theorem map_get_range {α:Type} (d:α) (l:List α):(List.range l.length).map (fun i=>l.getD i d)=l:=by
 apply ybn
 intro i
 rw [ya7]
 by_cases hi:i<l.length
 ·rw [yc8 hi]
  simp [hi]
 ·rw [ycg (by simpa using hi),ycg (by simpa using hi)]
  rfl
theorem seen_perm {α:Type} (d:α) {l:List α} {seen:List Nat} (h:seen.Nodup) (hlt:∀ e∈seen,e<l.length) (hall:∀ e,e<l.length→e∈seen):(seen.map fun i=>l.getD i d).Perm l:=by
 have:seen.Perm (List.range l.length):=(List.perm_ext_iff_of_nodup h List.nodup_range).2 fun e=>⟨fun he=>ybo.2 (hlt e he),fun he=>hall e (ybo.1 he)⟩
 have h2:=this.map fun i=>l.getD i d
 rwa [map_get_range] at h2
theorem cKy_le:∀ x y:Ky,(!(Go.Proofs.ltOf cKy) y x)=decide (cKy x y≤0):=fun x y=>by
 have hA:=(ordKy x).anti y
 unfold Go.Proofs.ltOf
 rw [hA]
 by_cases h:cKy x y≤0
 ·simp [h]
 ·simp [h];omega
theorem sortY_srt (l:List Ky):(sortY l).Pairwise fun x y=>cKy x y≤0:=by
 have hA:∀ x y,cKy y x=- cKy x y:=fun x y=>(ordKy x).anti y
 have:=List.pairwise_mergeSort (le:=fun x y=>!(Go.Proofs.ltOf cKy) y x) (fun a b c h1 h2=>by
  rw [cKy_le] at h1 h2 ⊢
  simp only [decide_eq_true_eq] at *
  exact ((ordKy a).tr b c h1 h2).1) (fun a b=>by
  rw [cKy_le,cKy_le,hA a b]
  simp
  omega) l
 refine this.imp fun {a b} h=>?_
 rw [cKy_le] at h
 simpa using h
theorem srt_unique {l m:List Ky} (h:l.Perm m) (h1:l.Pairwise fun x y=>cKy x y≤0) (h2:m.Pairwise fun x y=>cKy x y≤0):l=m :=
 h.eq_of_pairwise (fun a b _ _ h1 h2=>(ordKy a).eq b (by have:=(ordKy a).anti b;omega)) h1 h2
theorem sortY_eq {l m:List Ky} (h:l.Perm m):sortY l=sortY m :=
 srt_unique (((zdj l).trans h).trans (zdj m).symm) (sortY_srt l) (sortY_srt m)
theorem zg8 (l:List Ent):(keysF l).length≤l.length:=by
 induction l using snoc_ind with
 | h0=>exact yax _
 | h1 l x ih =>
   rw [zeu]
   unfold insK
   split
   ·simp;omega
   ·simp;omega
theorem totalK_c (b:Bk) (hvb:VB b) (d:Int) (k:Ky) (hk:k∈keysF (selF b.ent d)) (H:Heap):VDet Tryz.prog 34 [.agg (frcF b k.1 d).cells,.sl none (cntK (selF b.ent d) k) (wrkC (selF b.ent d) k)] H (.tup [.int .i64 (ptsF b d k),.int .i64 0]):=by
 have h:=total_c (frcF b k.1 d) (wksF b d k) (by have:=wks_len hvb d k;omega) none H
 rw [total_ok hvb hk] at h
 have e1:(wksF b d k).length=cntK (selF b.ent d) k:=by unfold wksF cntK;rw [yav]
 rw [e1] at h
 exact h
theorem report_c (b:Bk) (hb:b.Sm) (d:Int) (H:Heap):VDet Tryz.prog 9 [.agg b.cells,.int .i64 d] H (.tup [.sl none (repK b d).length ((repK b d).flatMap (rowC (ptsF b d))),.int .i64 (repE b d)]):=by
 have hva:=fun H=>zcp b hb H
 have hif:=fun ex H=>zd9 b hb.ser hb.vers ex d H
 have hcb:b.cells=[.sl none b.ser.length (b.ser.flatMap Ser.cells),.sl none b.ent.length (b.ent.flatMap Ent.cells)]:=rfl
 unfold repK repE
 by_cases hV:zbm b=true
 ·by_cases hD:isDay d=true
  ·have hvb:=validF_iff.1 hV
   have hwo:=fun H=>works_c b hb (by have:=hvb.ne;omega) d H
   have hkl:(keysF (selF b.ent d)).length≤2000:=by
    have h1:=zg8 (selF b.ent d)
    have h2:(selF b.ent d).length≤b.ent.length:=List.length_filter_le _ _
    have:=hvb.ne
    omega
   have hto:=fun k hk H=>totalK_c b hvb d k hk H
   rw [hV,hD]
   simp only [Bool.and_self,if_true]
   rw [hcb] at hva hif hwo ⊢
   rw [hV] at hva
   have hnd:=zd7 (selF b.ent d)
   generalize hks:keysF (selF b.ent d)=ks at *
   refine zap Tryz.E0 zad Tryz.func9 (by kernel_rfl) rfl (ybv rfl) rfl fun hcl hbl=>?_
   (repeat' ((conv=>whnf);(first|(refine yai ?_;first|refine yas ?_|refine yaq rfl ?_|refine yaq (by assumption) ?_|fail)|(refine ybi ?_;first|refine yab _ (hva _) ?_|refine yab _ (zbh _ _) ?_|refine yab _ (hwo _) ?_|fail)|refine zab [] ?_|fail)));all_goals (conv=>whnf)
   refine LoopN.tok 6 105 3 rfl rfl rfl ?_
   refine LoopN.tokVec 6 2 105 3 rfl rfl rfl ?_
   refine zbg Tryz.E0 zad (σ:=List Nat) (fun s=>s.Nodup∧∀ e∈s,e<ks.length) (fun s=>ks.length-s.length) (fun s=>[(6,.v (.vs (H.length+2) s.length))]) (fun s=>[.box 25 [.sl none b.ser.length (b.ser.flatMap Ser.cells),.sl none b.ent.length (b.ent.flatMap Ent.cells)],.it (.rmp (ksA ks) (vsA ks (wfA (selF b.ent d)))) (ksA ks).length s,.vec 105 3 ((s.map fun i=>ks.getD i (.empty,.empty)).flatMap (rowC (ptsF b d)))]) _ [] rfl hcl [1,2,24] rfl ⟨List.nodup_nil,fun e h=>absurd h ycu⟩ ⟨⟨_,rfl,yae _⟩,trivial⟩ rfl (fun _ _=>rfl) ?_
   rintro seen ⟨hsn,hlt⟩
   have hle:=nodup_lt hsn hlt
   have hrl:=zef (ptsF b d) (seen.map fun i=>ks.getD i (.empty,.empty))
   rw [yav] at hrl
   (repeat' ((conv=>whnf);(first|(refine yaf ?_ ?_;· first|kernel_rfl|omega|exact yaa _ _|(simp;done)|(simp;omega)|exact trivial|assumption|fail)|refine zab [] ?_|fail)));all_goals (conv=>whnf)
   rintro B v (⟨rfl,rfl,hall⟩|⟨e,kv,x,he,hn,hk,hx,rfl,rfl⟩)
   ·have hall:∀ e,e<ks.length→e∈seen:=fun e he=>hall e (by simpa [ksA] using he)
    have hperm:=seen_perm (.empty,.empty) hsn hlt hall
    have hso:=sort55_c (H++[.box 25 [.sl none b.ser.length (b.ser.flatMap Ser.cells),.sl none b.ent.length (b.ent.flatMap Ent.cells)],.it (.rmp (ksA ks) (vsA ks (wfA (selF b.ent d)))) (ksA ks).length seen,.vec 105 3 ((seen.map fun i=>ks.getD i (.empty,.empty)).flatMap (rowC (ptsF b d)))]) (H.length+2) (ptsF b d) (seen.map fun i=>ks.getD i (.empty,.empty)) (by rw [yav];omega) (zbk rfl)
    rw [zb8,yav] at hso
    have hso:VCall Tryz.prog 35 [.vs (H.length+2) seen.length,.clo (.func 36) [] []] (H++[.box 25 [.sl none b.ser.length (b.ser.flatMap Ser.cells),.sl none b.ent.length (b.ent.flatMap Ent.cells)],.it (.rmp (ksA ks) (vsA ks (wfA (selF b.ent d)))) (ksA ks).length seen,.vec 105 3 ((seen.map fun i=>ks.getD i (.empty,.empty)).flatMap (rowC (ptsF b d)))]) (fun r H'=>r=.tup []∧H'=H++[.box 25 [.sl none b.ser.length (b.ser.flatMap Ser.cells),.sl none b.ent.length (b.ent.flatMap Ent.cells)],.it (.rmp (ksA ks) (vsA ks (wfA (selF b.ent d)))) (ksA ks).length seen,.vec 105 3 ((sortY (seen.map fun i=>ks.getD i (.empty,.empty))).flatMap (rowC (ptsF b d)))]):=hso
    rw [sortY_eq hperm] at hso
    (repeat' ((conv=>whnf);(first|refine yau rfl ?_|refine CallN.fix _ _ _ 3 hso rfl rfl ?_|refine zab [] ?_|fail)));all_goals (conv=>whnf)
    have hsl:seen.length=(sortY ks).length:=by
     rw [zeq,← hperm.length_eq,yav]
    refine ydc (u':=.tup [.sl none seen.length ((sortY ks).flatMap (rowC (ptsF b d))),.int .i64 0]) ⟨⟨fun _ e=>(nomatch e),zan _ _ _⟩,trivial,trivial⟩ (Frz.tup (.cons (Frz.vs rfl (by rw [zef,hsl]) (yda _)) (.cons (.refl _) .nil))) ?_
    rw [hsl]
    exact yae _
   ·have he:e<ks.length:=by simpa [ksA] using he
    have hke:ks[e]? = some (ks.getD e (.empty,.empty)):=by simp [he]
    have hkm:ks.getD e (.empty,.empty)∈ks:=ycj hke
    have hk2:kv=.agg (keyC (ks.getD e (.empty,.empty))):=by
     unfold ksA at hk
     rw [ya7,hke] at hk
     simpa using hk.symm
    have hx2:x=.sl none (cntK (selF b.ent d) (ks.getD e (.empty,.empty))) (wrkC (selF b.ent d) (ks.getD e (.empty,.empty))):=by
     unfold vsA at hx
     rw [ya7,hke] at hx
     simpa [wfA] using hx.symm
    subst hk2 hx2
    have hlt2:seen.length+1≤ks.length:=by
     have:=nodup_lt (nodup_snoc hsn hn) (n:=ks.length) (fun a ha=>by
      rcases ybh.1 ha with h|h
      ·exact hlt a h
      ·simp at h;exact h▸he)
     simpa using this
    have hto:=hto _ hkm
    have hif:=hif (ks.getD e (.empty,.empty)).1
    have hrow:((seen++[e]).map fun i=>ks.getD i (.empty,.empty)).flatMap (rowC (ptsF b d))=(seen.map fun i=>ks.getD i (.empty,.empty)).flatMap (rowC (ptsF b d))++rowC (ptsF b d) (ks.getD e (.empty,.empty)):=by
     rw [ydh,ybt]
     simp
    unfold frcF at hto
    generalize (za3 b (ks.getD e (.empty,.empty)).1 d).isSome=fs at *
    obtain ⟨f1,f2,f3,f4,f5,f6,f7,f8,hv3⟩:=zcr ((za3 b (ks.getD e (.empty,.empty)).1 d).getD ver0)
    rw [hv3] at hto hif
    unfold Sch.cells at hto hif
    simp only at hto hif
    unfold keyC at hk ⊢
    unfold rowC at hrow
    generalize cntK (selF b.ent d) (ks.getD e (.empty,.empty))=c0 at *
    generalize wrkC (selF b.ent d) (ks.getD e (.empty,.empty))=w0 at *
    generalize ptsF b d (ks.getD e (.empty,.empty))=p0 at *
    have hbt:(seen.length+1) * 40≤140737488355328:=by omega
    have hmx:seen.length+1≤maxLen:=ybg (show seen.length+1≤1000001 by omega) (by decide)
    (repeat' ((conv=>whnf);(first|(refine yai ?_;first|refine yas ?_|refine yaq rfl ?_|fail)|(refine ybi ?_;first|refine yab _ (hif _) ?_|refine yab _ (hto _) ?_|fail)|refine RelN.mk [_,_] [] ⟨rfl,rfl,seen,e,_,_,rfl,hk,hx,rfl⟩ ?_|refine yaf ⟨hrl,rfl,rfl,hbt,hmx⟩ ?_|refine yb6 _ rfl ?_|refine zab [] ?_|fail)));all_goals (conv=>whnf)
    have hlen1:(seen++[e]).length=seen.length+1:=by simp
    exact ⟨⟨seen++[e],⟨nodup_snoc hsn hn,fun a ha=>by
      rcases ybh.1 ha with h|h
      ·exact hlt a h
      ·simp at h;exact h▸he⟩,by rw [hlen1];omega,⟨⟨_,rfl,by rw [hlen1];exact yae _⟩,trivial⟩,.inl ⟨rfl,rfl⟩,rfl,_,congrArg (fun V=>[_,_,Blk.vec 105 3 V]++_) hrow.symm,.inr ⟨by simp [zau,below,tr],⟨by simp [Blk.below,zac,below,zae,zag],by simp [Blk.below,below,za8,wfA_below],zan _ _ _,trivial⟩⟩⟩⟩
  ·have hD':isDay d=false:=by simpa using hD
   rw [hV,hD']
   rw [hcb] at hva ⊢
   rw [hV] at hva
   refine zap Tryz.E0 zad Tryz.func9 (by kernel_rfl) rfl (ybv rfl) rfl fun hcl hbl=>?_
   (repeat' ((conv=>whnf);(first|(refine yai ?_;first|refine yas ?_|refine yaq rfl ?_|refine yau (by assumption) ?_|fail)|(refine ybi ?_;first|refine yab _ (hva _) ?_|refine yab _ (zbh _ _) ?_|fail)|refine zab [] ?_|fail)));all_goals (conv=>whnf)
   exact ya1 (by simp [below,zac]) (by (repeat' (first|exact trivial|refine ybz ?_ ?_|exact yae _|exact wk_sl _ _ _|exact wk_sx _ _|exact zbp|refine zbs ?_|refine zby ?_|fail));done)
 ·have hV':zbm b=false:=by simpa using hV
  rw [hV']
  rw [hcb] at hva ⊢
  rw [hV'] at hva
  refine zap Tryz.E0 zad Tryz.func9 (by kernel_rfl) rfl (ybv rfl) rfl fun hcl hbl=>?_
  (repeat' ((conv=>whnf);(first|(refine yai ?_;first|refine yas ?_|refine yau rfl ?_|fail)|refine yab _ (hva _) ?_|refine zab [] ?_|fail)));all_goals (conv=>whnf)
  exact ya1 (by simp [below,zac]) (by (repeat' (first|exact trivial|refine ybz ?_ ?_|exact yae _|exact wk_sl _ _ _|exact wk_sx _ _|exact zbp|refine zbs ?_|refine zby ?_|fail));done)
theorem encP_nil {l:List (Int×Int)} (h:l.flatMap encP=[]):l=[]:=by
 cases l with
 | nil=>rfl
 | cons x l=>simp [encP] at h
theorem encP_len (l:List (Int×Int)):(l.flatMap encP).length=l.length * 2:=zav (sz:=2) (fun _=>rfl) l
theorem clone68_c (l:List (Int×Int)) (hl:l.length≤1000000) (H:Heap):VDet Tryz.prog 55 [.sl none l.length (l.flatMap encP)] H (.sl none l.length (l.flatMap encP)):=by
 by_cases h0:l=[]
 ·subst h0
  refine zap Tryz.E0 zad Tryz.func55 (by kernel_rfl) rfl (ybv rfl) rfl fun hcl hbl=>?_
  (repeat' ((conv=>whnf);(first|(refine yai ?_;first|refine yaq rfl ?_|refine yau rfl ?_|fail)|refine OrN.r (OrN.l (yaf rfl ?_))|refine AnyVN.nil (fun _=>?_) ?_|fail)));all_goals (conv=>whnf)
  all_goals exact ya1 (by simp [below,zac]) (by (repeat' (first|exact wk_sx _ _|exact zbp|fail));done)
 ·have hpos:0<l.length:=List.length_pos_iff.2 h0
  have hb:(0+l.length) * 16≤140737488355328:=by omega
  have hm:0+l.length≤maxLen:=ybg (by omega) (show 1000000≤maxLen by decide)
  have hc:=encP_len l
  have hn:l.flatMap encP≠[]:=fun h=>h0 (encP_nil h)
  have hbel:=zaf H.length l
  generalize l.flatMap encP=c at *
  generalize l.length=n at *
  refine zap Tryz.E0 zad Tryz.func55 (by kernel_rfl) rfl (ybv rfl) rfl fun hcl hbl=>?_
  (repeat' ((conv=>whnf);(first|refine yau rfl ?_|refine AnyVN.nil (fun h=>absurd h hn) ?_|refine OrN.l ?_|refine yaf ⟨hpos,rfl,hc,hb,hm⟩ ?_|fail)));conv=>whnf
  rw [ydg,ybr]
  exact ya1 ⟨fun _ e=>(nomatch e),hbel⟩ (wk_sl _ _ _)
theorem copyS_c (s:Sch) (hl:s.lates.length≤1000000) (H:Heap):VDet Tryz.prog 32 [.agg s.cells] H (.agg s.cells):=by
 obtain ⟨pts,part,att,rty,hnt,cnt,lates⟩:=s
 have h:=fun H=>clone68_c lates hl H
 unfold Sch.cells
 simp only at *
 have hbel:=zaf H.length lates
 generalize lates.flatMap encP=c at *
 refine zap Tryz.E0 zad Tryz.func32 (by kernel_rfl) rfl (ybv rfl) rfl fun hcl hbl=>?_
 (repeat' ((conv=>whnf);(first|refine yab _ (h _) ?_|fail)));conv=>whnf
 exact ya1 (by simpa [below,zac] using hbel) (yae _)
def schS (b:Bk) (ex:ByteArray) (d:Int):Sch:=if zbm b&&isDay d&&(za3 b ex d).isSome then frcF b ex d else sch0
def schE (b:Bk) (ex:ByteArray) (d:Int):Int:=if zbm b&&isDay d then (if (za3 b ex d).isSome then 0 else 6) else 2
theorem scheme_c (b:Bk) (hb:b.Sm) (ex:ByteArray) (d:Int) (H:Heap):VDet Tryz.prog 8 [.agg b.cells,.str ex,.int .i64 d] H (.tup [.agg (schS b ex d).cells,.int .i64 (schE b ex d)]):=by
 have hva:=fun H=>zcp b hb H
 have hif:=fun H=>zd9 b hb.ser hb.vers ex d H
 have hco:zbm b=true→(za3 b ex d).isSome=true→∀ H,VDet Tryz.prog 32 [.agg (frcF b ex d).cells] H (.agg (frcF b ex d).cells):=fun hV hF H=>copyS_c _ (by
  have:=(zca (zft (validF_iff.1 hV) hF)).2.2.2.2.2.2.1
  omega) H
 have hcb:b.cells=[.sl none b.ser.length (b.ser.flatMap Ser.cells),.sl none b.ent.length (b.ent.flatMap Ent.cells)]:=rfl
 unfold schS schE
 unfold frcF at *
 cases hV:zbm b <;> rw [hV] at hva hco
 ·rw [hcb] at hva ⊢
  refine zap Tryz.E0 zad Tryz.func8 (by kernel_rfl) rfl (ybv rfl) rfl fun hcl hbl=>?_
  (repeat' ((conv=>whnf);(first|(refine yai ?_;first|refine yas ?_|refine yau rfl ?_|fail)|refine yab _ (hva _) ?_|fail)));conv=>whnf
  exact ya1 (by simp [below,zac,sch0,Sch.cells]) (by simp only [sch0,Sch.cells];(repeat' (first|exact trivial|refine ybz ?_ ?_|exact yae _|exact zbp|refine zbs ?_|refine zby ?_|fail));done)
 ·cases hD:isDay d
  ·rw [hcb] at hva ⊢
   refine zap Tryz.E0 zad Tryz.func8 (by kernel_rfl) rfl (ybv rfl) rfl fun hcl hbl=>?_
   (repeat' ((conv=>whnf);(first|(refine yai ?_;first|refine yas ?_|refine yaq rfl ?_|refine yau (by assumption) ?_|fail)|(refine ybi ?_;first|refine yab _ (hva _) ?_|refine yab _ (zbh _ _) ?_|fail)|fail)));conv=>whnf
   exact ya1 (by simp [below,zac,sch0,Sch.cells]) (by simp only [sch0,Sch.cells];(repeat' (first|exact trivial|refine ybz ?_ ?_|exact yae _|exact zbp|refine zbs ?_|refine zby ?_|fail));done)
  ·have hco:=hco rfl
   cases hF:(za3 b ex d).isSome <;> rw [hF] at hif hco
   ·obtain ⟨f1,f2,f3,f4,f5,f6,f7,f8,hv3⟩:=zcr ((za3 b ex d).getD ver0)
    rw [hv3] at hif
    unfold Sch.cells at hif
    rw [hcb] at hva hif ⊢
    refine zap Tryz.E0 zad Tryz.func8 (by kernel_rfl) rfl (ybv rfl) rfl fun hcl hbl=>?_
    (repeat' ((conv=>whnf);(first|(refine yai ?_;first|refine yas ?_|refine yaq rfl ?_|refine yau rfl ?_|refine yaq (by assumption) ?_|fail)|(refine ybi ?_;first|refine yab _ (hva _) ?_|refine yab _ (zbh _ _) ?_|refine yab _ (hif _) ?_|fail)|fail)));conv=>whnf
    exact ya1 (by simp [below,zac,sch0,Sch.cells]) (by simp only [sch0,Sch.cells];(repeat' (first|exact trivial|refine ybz ?_ ?_|exact yae _|exact zbp|refine zbs ?_|refine zby ?_|fail));done)
   ·have hco:=hco rfl
    simp only [Bool.and_self,if_true]
    obtain ⟨f1,f2,f3,f4,f5,f6,f7,f8,hv3⟩:=zcr ((za3 b ex d).getD ver0)
    rw [hv3] at hif hco ⊢
    unfold Sch.cells at hif hco ⊢
    rw [hcb] at hva hif ⊢
    simp only at hif hco ⊢
    have hbel:=zaf H.length f8
    generalize f8.flatMap encP=fc at *
    refine zap Tryz.E0 zad Tryz.func8 (by kernel_rfl) rfl (ybv rfl) rfl fun hcl hbl=>?_
    (repeat' ((conv=>whnf);(first|(refine yai ?_;first|refine yas ?_|refine yaq rfl ?_|refine yaq (by assumption) ?_|fail)|(refine ybi ?_;first|refine yab _ (hva _) ?_|refine yab _ (zbh _ _) ?_|refine yab _ (hif _) ?_|refine yab _ (hco _) ?_|fail)|fail)));conv=>whnf
    exact ya1 (by simpa [below,zac] using hbel) (yae _)
end
end Go.Proofs.YtgopbbkpcjgihaaGreat
