/- Part of a proof: contracts and plain laws. -/
import Derived.Test.YtodpdjehjllhdaaGreatDoorW09
set_option linter.unusedVariables false
set_option linter.unusedSimpArgs false
set_option maxRecDepth 100000
set_option maxHeartbeats 20000000
namespace Go.Proofs.YtodpdjehjllhdaaGreatDoor
open Go.RowKit
section
section
variable {α : Type} [DecidableEq α] {lt : α → α → Bool} {xs ys : List α} {k : Nat}
theorem kX(h:k<xs.length)(h':k<ys.length)(e:xs[k]=ys[k]):gY lt (xs.drop k) (ys.drop k)=gY lt (xs.drop (k+1)) (ys.drop (k+1)):=by
 rw[List.drop_eq_getElem_cons h,List.drop_eq_getElem_cons h',gY,if_pos e]
theorem ln(h:k<xs.length)(h':k<ys.length)(e:xs[k]≠ys[k]):gY lt (xs.drop k) (ys.drop k)=lt xs[k] ys[k]:=by
 rw[List.drop_eq_getElem_cons h,List.drop_eq_getElem_cons h',gY,if_neg e]
theorem fP(h:k≤xs.length)(h':k≤ys.length)(e:k=xs.length∨k=ys.length):gY lt (xs.drop k) (ys.drop k)=decide (xs.length<ys.length):=by
 by_cases e1:k=xs.length
 ·by_cases e2:k=ys.length;·rw[List.drop_eq_nil_of_le (by omega),List.drop_eq_nil_of_le (by omega),gY,decide_eq_false (by omega)]
  ·rw[List.drop_eq_nil_of_le (by omega),List.drop_eq_getElem_cons (show k<ys.length by omega),gY,decide_eq_true (by omega)]
 ·rw[List.drop_eq_getElem_cons (show k<xs.length by omega),List.drop_eq_nil_of_le (show ys.length≤k by omega),gY,decide_eq_false (by omega)]
end
theorem vT(xs ys:List GStep)(A A':Option Addr)(c c':Nat)(w:World)(hx:SA w xs A c)(hy:SA w ys A' c'):Calls Tryz.prog 275 #[.slice A xs.length c,.slice A' ys.length c'] w (gQ w (.bool (dh xs ys))):=by
 obtain⟨r,hr⟩: ∃r,r=dh xs ys:=⟨_,rfl⟩;rw[←hr];have R:=AJ hr;clear hr;have hl:xs.length≤9223372036854775807:=by have:=hx.len;unfold maxLen at this;omega
 have hl':ys.length≤9223372036854775807:=by have:=hy.len;unfold maxLen at this;omega
 have E:=AJ (AH hx hy);clear hx hy;go_enter Tryz.func275,Tryz.ntmps275;go_wp2_with fail;go_loopg[5] (min xs.length ys.length) (fun gk i wr=> ∃k:Nat,k≤xs.length∧k≤ys.length∧k≤min xs.length ys.length∧i=.int .i64 k∧gk=min xs.length ys.length-k∧Hid (r=dh (xs.drop k) (ys.drop k))∧ ∃n,wr=w.drewN n);case atStart=>exact⟨0,by omega,by omega,by omega,rfl,by omega,R.out,0,rfl⟩
 case round=>
  obtain⟨k,hk,hk',hkN,rfl,rfl,hT,nd,rfl⟩:=hrel;by_cases hlt:k<xs.length
  ·by_cases hlt':k<ys.length
   ·obtain⟨b,off,rfl,hb,hI,k0,k1⟩:=E.out.1.df hlt;obtain⟨b',off',rfl,hb',hI',k0',k1'⟩:=E.out.2.df hlt';have hi1:(k:Int)<xs.length:=by omega
    have hi2:(k:Int)<ys.length:=by omega
    have hi3:(0:Int)≤k:=by omega
    rcases Decidable.em (xs[k]=ys[k]) with hq|hq
    ·have hne:=dv (x:=xs[k]) (y:=ys[k]) hq;have HT2:Hid (r=dh (xs.drop (k+1)) (ys.drop (k+1))):=by show _=_;rw[hT.out];exact kX hlt hlt' hq
     have HQ:=AJ hq;clear hq;go_wp2_with fail;go_quiet(fail);go_wp2_with fail;go_roundg(min xs.length ys.length-(k+1));case measure=>omega
     case rel=>exact⟨k+1,by omega,by omega,by omega,by go_num,rfl,HT2.out,by first|exact⟨_,rfl⟩|exact iV _ _ _⟩
    ·have hne:=cY (x:=xs[k]) (y:=ys[k]) hq;have hr2:r=(decide (xs[k].at_<ys[k].at_)||(decide (xs[k].at_=ys[k].at_)&&xs[k].name)):=by rw[hT.out];unfold dh;rw[ln hlt hlt' hq,mb hq]
     have HQ:=AJ hq;clear hq hT;by_cases h1:xs[k].at_<ys[k].at_
     ·have hr3:r=true:=by rw[hr2,decide_eq_true h1];rfl
      subst hr3;clear hr2 R;go_wp2_with fail;go_quiet(fail);go_wp2_with fail;go_quiet(fail);go_wp2_with fail;go_ret;exact⟨rfl,by first|exact⟨_,rfl⟩|exact iV _ _ _|(rw[World.drewN_drewN,World.drewN_drewN];exact⟨_,rfl⟩)⟩
     ·by_cases h2:xs[k].at_=ys[k].at_
      ·have hr3:r=xs[k].name:=by rw[hr2,decide_eq_false h1,decide_eq_true h2];rfl
       have h1': ¬ys[k].at_<ys[k].at_:=by omega
       have hb2:(xs[k].at_==ys[k].at_)=true:=by rw[h2];simp
       clear hr2 R;have H2:=AJ h2;clear h2;have HR3:=AJ hr3;clear hr3;go_wp2_with fail;go_quiet(fail);go_wp2_with fail;go_quiet(fail);go_wp2_with fail;go_ret;exact⟨by rw[HR3.out];show Ending.returned (.bool (decide (xs[k].at_<ys[k].at_)||xs[k].name))=_;rw[decide_eq_false (by omega)];rfl,by first|exact⟨_,rfl⟩|exact iV _ _ _|(rw[World.drewN_drewN,World.drewN_drewN];exact⟨_,rfl⟩)⟩
      ·have hr3:r=false:=by rw[hr2,decide_eq_false h1,decide_eq_false h2];rfl
       subst hr3;have hb2:(xs[k].at_==ys[k].at_)=false:=by simpa using h2
       clear hr2 R;have H2:=AJ h2;clear h2;go_wp2_with fail;go_quiet(fail);go_wp2_with fail;go_quiet(fail);go_wp2_with fail;go_ret;exact⟨by show Ending.returned (.bool (decide (xs[k].at_<ys[k].at_)))=_;rw[decide_eq_false (by omega)],by first|exact⟨_,rfl⟩|exact iV _ _ _|(rw[World.drewN_drewN,World.drewN_drewN];exact⟨_,rfl⟩)⟩
   ·skip;have hi2: ¬(k:Int)<ys.length:=by omega
    have hi1:(k:Int)<xs.length:=by omega
    have hr2:r=decide (xs.length<ys.length):=by rw[hT.out];exact fP hk hk' (by omega)
    have hr3:r=false:=by rw[hr2,decide_eq_false (by omega)]
    subst hr3;have hi5: ¬(xs.length:Int)<ys.length:=by omega
    clear R hT hr2;go_wp2_with fail;go_ret;exact⟨rfl,by first|exact⟨_,rfl⟩|exact iV _ _ _⟩
  ·skip;have hi1: ¬(k:Int)<xs.length:=by omega
   have hr2:r=decide (xs.length<ys.length):=by rw[hT.out];exact fP hk hk' (by omega)
   by_cases h5:xs.length<ys.length
   ·have hr3:r=true:=by rw[hr2,decide_eq_true h5]
    subst hr3;have hi5:(xs.length:Int)<ys.length:=by omega
    clear R hT hr2;go_wp2_with fail;go_ret;exact⟨rfl,by first|exact⟨_,rfl⟩|exact iV _ _ _⟩
   ·have hr3:r=false:=by rw[hr2,decide_eq_false h5]
    subst hr3;have hi5: ¬(xs.length:Int)<ys.length:=by omega
    clear R hT hr2;go_wp2_with fail;go_ret;exact⟨rfl,by first|exact⟨_,rfl⟩|exact iV _ _ _⟩
theorem gO(xs ys:List GStep)(A A':Option Addr)(c c':Nat)(w:World)(hx:SA w xs A c)(hy:SA w ys A' c'):Calls Tryz.prog 215 #[.slice A xs.length c,.slice A' ys.length c'] w (gQ w (.bool (dh xs ys))):=by
 obtain⟨r,hr⟩: ∃r,r=dh xs ys:=⟨_,rfl⟩;rw[←hr];have R:=AJ hr;clear hr;have hl:xs.length≤9223372036854775807:=by have:=hx.len;unfold maxLen at this;omega
 have hl':ys.length≤9223372036854775807:=by have:=hy.len;unfold maxLen at this;omega
 have E:=AJ (AH hx hy);clear hx hy;rcases Nat.lt_or_ge ys.length xs.length with hm|hm
 ·have hm1:(ys.length:Int)<xs.length:=by omega
  go_enter Tryz.func215,Tryz.ntmps215;go_wp2_with fail;go_loopg[5,11] (ys.length) (fun gk _ i wr=> ∃k:Nat,k≤xs.length∧k≤ys.length∧k≤ys.length∧i=.int .i64 k∧gk=ys.length-k∧Hid (r=dh (xs.drop k) (ys.drop k))∧ ∃n,wr=w.drewN n);case atStart=>exact⟨0,by omega,by omega,by omega,rfl,by omega,R.out,0,rfl⟩
  case round=>
   obtain⟨k,hk,hk',hkN,rfl,rfl,hT,nd,rfl⟩:=hrel;by_cases hlt:k<xs.length
   ·by_cases hlt':k<ys.length
    ·obtain⟨b,off,rfl,hb,hI,k0,k1⟩:=E.out.1.df hlt;obtain⟨b',off',rfl,hb',hI',k0',k1'⟩:=E.out.2.df hlt';have hi1:(k:Int)<xs.length:=by omega
     have hi2:(k:Int)<ys.length:=by omega
     have hi3:(0:Int)≤k:=by omega
     rcases Decidable.em (xs[k]=ys[k]) with hq|hq
     ·have hne:=dv (x:=xs[k]) (y:=ys[k]) hq;have HT2:Hid (r=dh (xs.drop (k+1)) (ys.drop (k+1))):=by show _=_;rw[hT.out];exact kX hlt hlt' hq
      have HQ:=AJ hq;clear hq;go_wp2_with fail;go_quiet(fail);go_wp2_with fail;go_roundg(ys.length-(k+1));case measure=>omega
      case rel=>exact⟨k+1,by omega,by omega,by omega,by go_num,rfl,HT2.out,by first|exact⟨_,rfl⟩|exact iV _ _ _⟩
     ·have hne:=cY (x:=xs[k]) (y:=ys[k]) hq;have hr2:r=(decide (xs[k].at_<ys[k].at_)||(decide (xs[k].at_=ys[k].at_)&&xs[k].name)):=by rw[hT.out];unfold dh;rw[ln hlt hlt' hq,mb hq]
      have HQ:=AJ hq;clear hq hT;by_cases h1:xs[k].at_<ys[k].at_
      ·have hr3:r=true:=by rw[hr2,decide_eq_true h1];rfl
       subst hr3;clear hr2 R;go_wp2_with fail;go_quiet(fail);go_wp2_with fail;go_quiet(fail);go_wp2_with fail;go_ret;exact⟨rfl,by first|exact⟨_,rfl⟩|exact iV _ _ _|(rw[World.drewN_drewN,World.drewN_drewN];exact⟨_,rfl⟩)⟩
      ·by_cases h2:xs[k].at_=ys[k].at_
       ·have hr3:r=xs[k].name:=by rw[hr2,decide_eq_false h1,decide_eq_true h2];rfl
        have h1': ¬ys[k].at_<ys[k].at_:=by omega
        have hb2:(xs[k].at_==ys[k].at_)=true:=by rw[h2];simp
        clear hr2 R;have H2:=AJ h2;clear h2;have HR3:=AJ hr3;clear hr3;go_wp2_with fail;go_quiet(fail);go_wp2_with fail;go_quiet(fail);go_wp2_with fail;go_ret;exact⟨by rw[HR3.out];show Ending.returned (.bool (decide (xs[k].at_<ys[k].at_)||xs[k].name))=_;rw[decide_eq_false (by omega)];rfl,by first|exact⟨_,rfl⟩|exact iV _ _ _|(rw[World.drewN_drewN,World.drewN_drewN];exact⟨_,rfl⟩)⟩
       ·have hr3:r=false:=by rw[hr2,decide_eq_false h1,decide_eq_false h2];rfl
        subst hr3;have hb2:(xs[k].at_==ys[k].at_)=false:=by simpa using h2
        clear hr2 R;have H2:=AJ h2;clear h2;go_wp2_with fail;go_quiet(fail);go_wp2_with fail;go_quiet(fail);go_wp2_with fail;go_ret;exact⟨by show Ending.returned (.bool (decide (xs[k].at_<ys[k].at_)))=_;rw[decide_eq_false (by omega)],by first|exact⟨_,rfl⟩|exact iV _ _ _|(rw[World.drewN_drewN,World.drewN_drewN];exact⟨_,rfl⟩)⟩
    ·skip;have hi2: ¬(k:Int)<ys.length:=by omega
     have hi1:(k:Int)<xs.length:=by omega
     have hr2:r=decide (xs.length<ys.length):=by rw[hT.out];exact fP hk hk' (by omega)
     have hr3:r=false:=by rw[hr2,decide_eq_false (by omega)]
     subst hr3;have hi5: ¬(xs.length:Int)<ys.length:=by omega
     clear R hT hr2;go_wp2_with fail;go_ret;exact⟨rfl,by first|exact⟨_,rfl⟩|exact iV _ _ _⟩
   ·exfalso;omega
 ·have hm1: ¬(ys.length:Int)<xs.length:=by omega
  go_enter Tryz.func215,Tryz.ntmps215;go_wp2_with fail;go_loopg[5,11] (xs.length) (fun gk _ i wr=> ∃k:Nat,k≤xs.length∧k≤ys.length∧k≤xs.length∧i=.int .i64 k∧gk=xs.length-k∧Hid (r=dh (xs.drop k) (ys.drop k))∧ ∃n,wr=w.drewN n);case atStart=>exact⟨0,by omega,by omega,by omega,rfl,by omega,R.out,0,rfl⟩
  case round=>
   obtain⟨k,hk,hk',hkN,rfl,rfl,hT,nd,rfl⟩:=hrel;by_cases hlt:k<xs.length
   ·by_cases hlt':k<ys.length
    ·obtain⟨b,off,rfl,hb,hI,k0,k1⟩:=E.out.1.df hlt;obtain⟨b',off',rfl,hb',hI',k0',k1'⟩:=E.out.2.df hlt';have hi1:(k:Int)<xs.length:=by omega
     have hi2:(k:Int)<ys.length:=by omega
     have hi3:(0:Int)≤k:=by omega
     rcases Decidable.em (xs[k]=ys[k]) with hq|hq
     ·have hne:=dv (x:=xs[k]) (y:=ys[k]) hq;have HT2:Hid (r=dh (xs.drop (k+1)) (ys.drop (k+1))):=by show _=_;rw[hT.out];exact kX hlt hlt' hq
      have HQ:=AJ hq;clear hq;go_wp2_with fail;go_quiet(fail);go_wp2_with fail;go_roundg(xs.length-(k+1));case measure=>omega
      case rel=>exact⟨k+1,by omega,by omega,by omega,by go_num,rfl,HT2.out,by first|exact⟨_,rfl⟩|exact iV _ _ _⟩
     ·have hne:=cY (x:=xs[k]) (y:=ys[k]) hq;have hr2:r=(decide (xs[k].at_<ys[k].at_)||(decide (xs[k].at_=ys[k].at_)&&xs[k].name)):=by rw[hT.out];unfold dh;rw[ln hlt hlt' hq,mb hq]
      have HQ:=AJ hq;clear hq hT;by_cases h1:xs[k].at_<ys[k].at_
      ·have hr3:r=true:=by rw[hr2,decide_eq_true h1];rfl
       subst hr3;clear hr2 R;go_wp2_with fail;go_quiet(fail);go_wp2_with fail;go_quiet(fail);go_wp2_with fail;go_ret;exact⟨rfl,by first|exact⟨_,rfl⟩|exact iV _ _ _|(rw[World.drewN_drewN,World.drewN_drewN];exact⟨_,rfl⟩)⟩
      ·by_cases h2:xs[k].at_=ys[k].at_
       ·have hr3:r=xs[k].name:=by rw[hr2,decide_eq_false h1,decide_eq_true h2];rfl
        have h1': ¬ys[k].at_<ys[k].at_:=by omega
        have hb2:(xs[k].at_==ys[k].at_)=true:=by rw[h2];simp
        clear hr2 R;have H2:=AJ h2;clear h2;have HR3:=AJ hr3;clear hr3;go_wp2_with fail;go_quiet(fail);go_wp2_with fail;go_quiet(fail);go_wp2_with fail;go_ret;exact⟨by rw[HR3.out];show Ending.returned (.bool (decide (xs[k].at_<ys[k].at_)||xs[k].name))=_;rw[decide_eq_false (by omega)];rfl,by first|exact⟨_,rfl⟩|exact iV _ _ _|(rw[World.drewN_drewN,World.drewN_drewN];exact⟨_,rfl⟩)⟩
       ·have hr3:r=false:=by rw[hr2,decide_eq_false h1,decide_eq_false h2];rfl
        subst hr3;have hb2:(xs[k].at_==ys[k].at_)=false:=by simpa using h2
        clear hr2 R;have H2:=AJ h2;clear h2;go_wp2_with fail;go_quiet(fail);go_wp2_with fail;go_quiet(fail);go_wp2_with fail;go_ret;exact⟨by show Ending.returned (.bool (decide (xs[k].at_<ys[k].at_)))=_;rw[decide_eq_false (by omega)],by first|exact⟨_,rfl⟩|exact iV _ _ _|(rw[World.drewN_drewN,World.drewN_drewN];exact⟨_,rfl⟩)⟩
    ·exfalso;omega
   ·skip;have hi1: ¬(k:Int)<xs.length:=by omega
    have hr2:r=decide (xs.length<ys.length):=by rw[hT.out];exact fP hk hk' (by omega)
    by_cases h5:xs.length<ys.length
    ·have hr3:r=true:=by rw[hr2,decide_eq_true h5]
     subst hr3;have hi5:(xs.length:Int)<ys.length:=by omega
     clear R hT hr2;go_wp2_with fail;go_ret;exact⟨rfl,by first|exact⟨_,rfl⟩|exact iV _ _ _⟩
    ·have hr3:r=false:=by rw[hr2,decide_eq_false h5]
     subst hr3;have hi5: ¬(xs.length:Int)<ys.length:=by omega
     clear R hT hr2;go_wp2_with fail;go_ret;exact⟨rfl,by first|exact⟨_,rfl⟩|exact iV _ _ _⟩
end
theorem cX: ∀(w:World)(F:List Nat)(a:GStep)(cs:List Value),aD.rp w F a cs→F=[]:=fun _ _ _ _ h=>h.1
theorem cM(p:List GStep)(s:GStep)(A:Option Addr)(c:Nat)(w:World)(hn:p.length≤4194304)(hI:aT s.at_)(hp:SA w p A c):Calls Tryz.prog 216 #[.slice A p.length c,.agg #[.int .i64 s.at_,.bool s.name]] w (vL w (p++[s])):=by
 have E:=AJ (hp.below (ab (ae w) (.cells #[.int .i64 s.at_,.bool s.name] 86)));clear hp;have P0:=AJ (ai.new w 86 #[.int .i64 s.at_,.bool s.name]);go_enter Tryz.func216,Tryz.ntmps216;go_wp2_with fail;go_region_held3(fun u=>u.cell? ⟨w.heap.size,0,none⟩=some (.int .i64 s.at_)∧u.cell? ⟨w.heap.size,1,none⟩=some (.bool s.name)) (go_keep) (first|((refine aX rfl (.tmp 5) (.tmp 6) 38 rfl (v:=.slice (some ⟨_,0,none⟩) 0 0) (u:=.slice A p.length c) rfl rfl (aS cX 38 _ (w.heap.size+1) 86 (.agg #[.int .i64 0,.bool false]) 16 Tryz.underlying38 bY rfl (by decide) _ [] p A c (by first|exact(ay.dF _ _ _ _ (by simp) (by omega)).drew|exact((ay.dF _ _ _ _ (by simp) (by omega)).alloc _).drew) (by first|exact(E.out.below (ab (ae _) _)).drew|exact(E.out.below (ab (ab (ae _) _) _)).drew) (by simp;omega) (by simp;unfold maxLen;omega) (by simp)) ?_;rintro v1 w1 ⟨ho,hbl,hloc,hg⟩;rw[List.nil_append] at ho;obtain⟨A1,c1,rfl⟩:=ho.form;have HB1:=AJ (show Below w.heap.size w w1 from Below.trans (by first|exact(ab (ab (ae w) _) _).drew|exact(ab (ab (ab (ae w) _) _) _).drew) (hbl.mono (by omega)));have HP1:=AJ (ai.aF (show ai _ w.heap.size 86 #[.int .i64 s.at_,.bool s.name] by first|exact(P0.out.alloc _).drew|exact((P0.out.alloc _).alloc _).drew) hbl (by omega));obtain⟨q0,q1⟩:=HP1.out.c2;have hz1:w.heap.size+1≤w1.heap.size:=(by have:=hbl.size;simp at this;omega);have HO1:=AJ ho;have HG:=AJ hg;clear ho hbl hloc hg))|((refine aX rfl (.tmp 7) (.tmp 9) 38 rfl (v:=.slice A1 p.length c1) (u:=.slice (some ⟨_,0,none⟩) 1 1) rfl rfl (cS 38 _ (w.heap.size+1) 86 (.agg #[.int .i64 0,.bool false]) 16 Tryz.underlying38 bY rfl (by decide) _ p s [.int .i64 s.at_,.bool s.name] w1 ⟨_,0,none⟩ 1 HO1.out (by first|exact ae w1|exact ab (ae w1) _) (RF.step s hI) (by first|exact aJ [.int .i64 s.at_,.bool s.name] rfl|exact ai.cells (cs:=#[.int .i64 s.at_,.bool s.name]) (ai.grown (ai.at (by simp)).drew HG.out (by simp[Value.ownBlock]<;>omega))|exact ai.cells (cs:=#[.int .i64 s.at_,.bool s.name]) (ai.grown ((ai.at (by simp)).alloc _).drew HG.out (by simp[Value.ownBlock]<;>omega))) (by omega) (by unfold maxLen;omega) (by omega)) ?_;rintro v2 w2 ⟨ho,hbl,_⟩;obtain⟨A2,c2,rfl⟩:=ho.form;have HB2:=AJ (show Below w.heap.size w w2 from Below.trans (by first|exact HB1.out|exact ab HB1.out _) (hbl.mono (by omega)));have HO2:=AJ ho;obtain⟨r0,r1⟩:=(ai.aF (show ai _ w.heap.size 86 #[.int .i64 s.at_,.bool s.name] by first|exact HP1.out|exact HP1.out.alloc _) hbl (by omega)).c2;clear ho hbl)));all_goals go_wp2_with fail;go_ret;exact⟨A2,c2,by simp,HO2.out.sf.2.mono (by omega),HB2.out⟩
theorem SS.sa{α:Type}[aD α]{w:World}{S:Nat→Prop}{l:List α}{A:Option Addr}{c:Nat}(h:SS w S l A c)(hS: ∀b,S b→b<w.heap.size):SA w l A c:=SS.al h (fun _ _=>rfl) hS
theorem lQ(w:World)(e:TypeId)(s:ByteArray):Below w.heap.size w (Lib.bytesWorld w e s):=⟨rfl,rfl,rfl,by rw[Lib.bytesWorld_size];omega,fun b hb=>Lib.bytesWorld_at_old w e s b hb⟩
theorem aL.bytes(w:World): ∀l:List UInt8,aL w l [] (l.map fun b=>Value.int .u8 (b.toNat:Int))|[]=>⟨rfl,rfl⟩|b::l=>⟨[],[],[.int .u8 (b.toNat:Int)],_,rfl,rfl,⟨rfl,rfl⟩,aL.bytes w l⟩
theorem pv(w:World)(e:TypeId)(s:ByteArray)(hs:s.size≤maxLen):SA (Lib.bytesWorld w e s) s.data.toList (some ⟨w.heap.size,0,none⟩) (grownCap w s.size 0 e):=by
 have hl:s.data.toList.length=s.size:=by rw[Array.length_toList];rfl
 by_cases h0:s.data.toList=[];·rw[h0];exact⟨[],⟨by simp,grownCap_le_maxLen w _ 0 e hs,.inl ⟨rfl,rfl,fun h=>by cases h⟩⟩,by simp⟩
 ·refine⟨[w.heap.size],⟨by rw[hl];exact grownCap_ge w _ 0 e,grownCap_le_maxLen w _ 0 e hs,.inr ⟨w.heap.size,0,[],_,rfl,rfl,aL.bytes _ _,?_⟩⟩,?_⟩
  ·intro j v hj;rw[List.getElem?_map] at hj;have hjl:j<s.data.toList.length:=by rcases Nat.lt_or_ge j s.data.toList.length with h|h;(·exact h);·rw[List.getElem?_eq_none h] at hj;cases hj
   rw[List.getElem?_eq_getElem hjl] at hj;injection hj with hj;rw[Nat.zero_add,Lib.bytesWorld_cell w e s j (by omega),←hj,List.getD_eq_getElem?_getD,List.getElem?_eq_getElem hjl];rfl
  ·intro b hb;simp at hb;rw[Lib.bytesWorld_size];omega
theorem fS(s:ByteArray)(w:World)(hs:s.size≤1099511627776):Calls Tryz.prog 144 #[.string s] w (bW w (.bool (cd s))):=by
 have hl:s.data.toList.length=s.size:=by rw[Array.length_toList];rfl
 obtain⟨l,hll⟩: ∃l,l=s.data.toList:=⟨_,rfl⟩;obtain⟨r,hr⟩: ∃r,r=cd s:=⟨_,rfl⟩;rw[←hr];unfold cd at hr;have hcv:=Lib.run_convert_string_bytes (P:=Tryz.prog) w 9 22 5 s Tryz.underlying9 Tryz.underlying22 Tryz.underlying5;have hsa:=pv w 5 s (by unfold maxLen;omega);have hbe:=lQ w 5 s;rw[←hll] at hr hl hsa;have hn:l.length≤1099511627776:=by omega
 obtain⟨W,hW⟩: ∃W,W=Lib.bytesWorld w 5 s:=⟨_,rfl⟩;rw[←hW] at hcv hsa hbe;obtain⟨c,hc⟩: ∃c,c=grownCap w s.size 0 5:=⟨_,rfl⟩;rw[←hc] at hcv hsa;rw[←hl] at hcv;have R:=AJ hr;have E:=AJ hsa;have B:=AJ hbe;clear hr hsa hbe hW hc hll hs hl;go_enter Tryz.func144,Tryz.ntmps144;go_wp2_with fail;go_loopg[4] l.length (fun gk i wr=> ∃(k:Nat),k≤l.length∧i=.int .i64 (k:Int)∧gk=l.length-k∧Hid (r=Lib.validD (l.drop k))∧wr=W);case atStart=>exact⟨0,by omega,rfl,by omega,R.out,rfl⟩
 case round=>
  obtain⟨k,hk,rfl,rfl,hT,rfl⟩:=hrel;by_cases hlt:k<l.length
  ·have hpos:0<(l.drop k).length:=by rw[List.length_drop];omega
   obtain⟨v1,v2⟩:=sr hpos;cases hg:gp (l.drop k) with|none=>(have hr0:r=false:=by rw[hT.out];exact v1 hg);subst hr0;have G:=AJ hg;clear hg v1 v2;go_wp2_with fail;refine(iq l k _ c _ hn hlt E.out).mono ?_;rintro e w1 ⟨rfl,rfl⟩;rw[G.out];unfold sV;go_wp2_with fail;go_ret;exact⟨rfl,B.out⟩|some p=>obtain⟨n,d⟩:=p;obtain⟨q1,q2,q3⟩:=v2 n d hg;rw[List.length_drop] at q3;(have HT2:Hid (r=Lib.validD (l.drop (k+d))):=by show _=_;rw[hT.out,q1,List.drop_drop]);have G:=AJ hg;clear hg v1 v2 q1;go_wp2_with fail;refine(iq l k _ c _ hn hlt E.out).mono ?_;rintro e w1 ⟨rfl,rfl⟩;rw[G.out];unfold sV;go_wp2_with fail;go_roundg(l.length-(k+d));(case measure=>omega);case rel=>exact⟨k+d,by omega,rfl,rfl,HT2.out,rfl⟩
  ·have e:k=l.length:=by omega
   have hr0:r=true:=by rw[hT.out,e,List.drop_length];rfl
   subst hr0;go_wp2_with fail;go_ret;exact⟨rfl,B.out⟩
end Go.Proofs.YtodpdjehjllhdaaGreatDoor
