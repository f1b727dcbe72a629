/- Part of a proof: contracts and plain laws. -/
import Derived.Test.YtodpdjehjllhdaaGreatDoorK05
import Derived.Deep.RegionHeld3
import Derived.Deep.CutRange
import Derived.Deep.DeepCutAuto
set_option linter.unusedVariables false
set_option linter.unusedSimpArgs false
set_option maxRecDepth 100000
set_option maxHeartbeats 20000000
namespace Go.Proofs.YtodpdjehjllhdaaGreatDoor
open Go.RowKit
theorem kp{c:ah}{l:List ah}{i:Nat}(h:i<l.length)(e:l[i].name=c.name):cH c l=true:=by
 unfold cH;exact List.any_eq_true.2 ⟨l[i],List.getElem_mem h,by simpa using e⟩
theorem qd: ∀(cs:List ah)(c:ah),c∈ar cs↔ ∃i,∃h:i<cs.length,c=cs[i]∧cH cs[i] (cs.drop (i+1))=false|[],c=>by simp[ar]|d::cs,c=>by have ih:=qd cs c;rw[ar];constructor;(·intro h;split at h;(·obtain⟨i,hi,e,g⟩:=ih.1 h;exact⟨i+1,by simpa using hi,by simpa using e,by simpa using g⟩);·rename_i hg;rcases List.mem_cons.1 h with rfl|h;(·exact⟨0,by simp,by simp,by simpa using hg⟩);·obtain⟨i,hi,e,g⟩:=ih.1 h;exact⟨i+1,by simpa using hi,by simpa using e,by simpa using g⟩);·rintro⟨i,hi,e,g⟩;cases i with|zero=>simp only[List.getElem_cons_zero,Nat.zero_add,List.drop_succ_cons,List.drop_zero] at e g;rw[if_neg (by rw[g];simp),e];exact List.mem_cons_self .. |succ i=>have:=ih.2 ⟨i,by simpa using hi,by simpa using e,by simpa using g⟩;split;(·exact this);·exact List.mem_cons_of_mem _ this
theorem jX{α:Type}{p q:α→Bool}: ∀{l:List α},(∀x∈l,p x=q x)→l.findIdx? p=l.findIdx? q|[],_=>rfl|x::l,h=>by rw[List.findIdx?_cons,List.findIdx?_cons,h x (List.mem_cons_self ..),jX fun y hy=>h y (List.mem_cons_of_mem _ hy)]
theorem lI{α:Type}{p:α→Bool}: ∀{l:List α},(∀x∈l,p x=false)→l.findIdx? p=none|[],_=>rfl|x::l,h=>by rw[List.findIdx?_cons,h x (List.mem_cons_self ..),lI fun y hy=>h y (List.mem_cons_of_mem _ hy)];rfl
theorem vA{way:Int}{l:List ah}{c:ah}:c∈aS way l↔c∈l:=by
 unfold aS;split;·have:=(bF aY l []).mem_iff (a:=c);simpa using this
 ·rfl
theorem pD(way:Int)(l:List aa)(p:List GStep){i:Nat}(h:i<(bH way l p).length):(bH way l p)[i].at_=i:=by
 have h2:=h;rw[bY] at h2;exact(fv way l p h (by omega) (by omega)).1
def pk(way:Int)(l:List aa)(m:Nat):Option Nat:=(aS way (ar (bH way l []))).findIdx? fun c=>decide ((c.at_:Int)=(m:Int))
theorem uU(way:Int)(l:List aa){m:Nat}(hm:m<(bH way l []).length):pk way l m=if cH (bH way l [])[m] ((bH way l []).drop (m+1))=true then none else((aS way (ar (bH way l []))).map ah.name).findIdx? fun x=>decide (x=(bH way l [])[m].name):=by
 unfold pk;have hk: ∀c∈aS way (ar (bH way l [])),∃i,∃h:i<(bH way l []).length,c=(bH way l [])[i]∧cH (bH way l [])[i] ((bH way l []).drop (i+1))=false:=fun c hc=>(qd _ c).1 (vA.1 hc);split
 ·rename_i hg;refine lI fun c hc=> ?_;obtain⟨i,hi,rfl,g⟩:=hk c hc;rw[pD way l [] hi];refine decide_eq_false fun e=> ?_;have e:i=m:=by omega
  subst e;rw[g] at hg;cases hg
 ·rename_i hg;rw[List.findIdx?_map];refine jX fun c hc=> ?_;obtain⟨i,hi,rfl,g⟩:=hk c hc;rw[pD way l [] hi];simp only[Function.comp];by_cases e:i=m;·subst e;simp
  ·rw[decide_eq_false (by omega),decide_eq_false];intro hn;rcases Nat.lt_or_gt_of_ne e with h|h;·rw[kp (i:=m-(i+1)) (by rw[List.length_drop];omega) (by rw[List.getElem_drop];simp only[show i+1+(m-(i+1))=m by omega];exact hn.symm)] at g;cases g
   ·exact hg (kp (i:=i-(m+1)) (by rw[List.length_drop];omega) (by rw[List.getElem_drop];simp only[show m+1+(i-(m+1))=i by omega];exact hn))
theorem uz{cs:List ah}{m:Nat}(hm:m<cs.length):cH cs[m] (cs.drop (m+1))=true↔ ∃j,m<j∧ ∃h:j<cs.length,cs[j].name=cs[m].name:=by
 constructor;·intro h;unfold cH at h;obtain⟨d,hd,e⟩:=List.any_eq_true.1 h;obtain⟨i,hi,rfl⟩:=List.getElem_of_mem hd;rw[List.length_drop] at hi;refine⟨m+1+i,by omega,by omega,?_⟩;rw[List.getElem_drop] at e;simpa using e
 ·rintro⟨j,hj,h,e⟩;refine kp (i:=j-(m+1)) (by rw[List.length_drop];omega) ?_;rw[List.getElem_drop];simp only[show m+1+(j-(m+1))=j by omega];exact e
theorem vx{way:Int}{l:List aa}{NM:List aa}(hN:NM=(bH way l []).map ah.name){m j:Nat}(hm:m<NM.length)(hj:m<j)(h:j<NM.length)(e:NM[j]=NM[m]):pk way l m=none:=by
 subst hN;rw[List.length_map] at hm h;simp only[List.getElem_map] at e;rw[uU way l hm,if_pos ((uz hm).2 ⟨j,hj,h,e⟩)]
theorem vv{way:Int}{l:List aa}{NM:List aa}(hN:NM=(bH way l []).map ah.name){m:Nat}(hm:m<NM.length)(h: ∀j,m<j→ ∀h:j<NM.length,NM[j]≠NM[m]):pk way l m=((aS way (ar (bH way l []))).map ah.name).findIdx? fun x=>decide (x=NM[m]):=by
 subst hN;rw[List.length_map] at hm;rw[uU way l hm,if_neg fun g=> ?_];·simp only[List.getElem_map]
 ·obtain⟨j,hj,hl,e⟩:=(uz hm).1 g;exact h j hj (by rw[List.length_map];exact hl) (by simpa using e)
theorem tD{L:List aa}{x:aa}{i:Nat}(hi:i<L.length)(e:L[i]=x)(h: ∀j(hj:j<L.length),j<i→L[j]≠x):(L.findIdx? fun y=>decide (y=x))=some i:=by
 rw[List.findIdx?_eq_some_iff_getElem];exact⟨hi,by simpa using e,fun j hj=>by simpa using h j (by omega) hj⟩
theorem tM{L:List aa}{x:aa}(h: ∀j(hj:j<L.length),L[j]≠x):(L.findIdx? fun y=>decide (y=x))=none:=by
 rw[List.findIdx?_eq_none_iff];intro y hy;obtain⟨j,hj,rfl⟩:=List.getElem_of_mem hy;simpa using h j hj
def zg:Option Nat→Int|none=> -1|some j=>j
def yw(v:aa):Prop:= ∀(A:Option Addr)(c:Nat)(w:World),bulkVal v≤1048576→bC v→SA w v.l A c→Calls Tryz.prog 69 #[.agg #[.int .i64 v.kind,.int .i64 v.n,.int .i64 v.x,.string v.s,.slice A v.l.length c]] w fun e w'=> ∃A' c',e=.returned (.agg #[.int .i64 v.kind,.int .i64 v.n,.int .i64 v.x,.string v.s,.slice A' v.l.length c'])∧SF w.heap.size w' v.l A' c'∧Below w.heap.size w w'
theorem jv(v:aa):yw v:=by
 refine aa.ind (p:=yw) (fun v IH=> ?_) v;intro A c w hn hI hx;have hn1:v.l.length≤1048576:=by rw[au,aB] at hn;omega
 have hp:Hid (∀k(h:k<v.l.length),bulkVal v.l[k]≤1048576):=fun k h=>by have:=dJ bulkVal v.l h;rw[au,aB] at hn;omega
 have IH':=Ad IH;clear IH hn;have E:=Ad hx;clear hx;have HI:=Ad hI;clear hI;go_enter Tryz.func69,Tryz.ntmps69;go_wp2_with fail;go_loopg[4] v.l.length (fun gk i wr=> ∃(k:Nat) (rv:Value),k≤v.l.length∧i=.int .i64 k∧gk=v.l.length-k∧aj wr w.heap.size 27 #[.int .i64 v.kind,.int .i64 v.n,.int .i64 v.x,.string v.s,.slice A v.l.length c]∧aj wr (w.heap.size+1) 27 #[.int .i64 0,.int .i64 0,.int .i64 0,.string .empty,.slice none 0 0]∧aj wr (w.heap.size+1+1) 27 #[.int .i64 v.kind,.int .i64 v.n,.int .i64 v.x,.string v.s,rv]∧ay wr (w.heap.size+1+1+1) 27 rv (v.l.take k)∧Below w.heap.size w wr);case atStart=>exact⟨0,.slice (some ⟨w.heap.size+1+1+1,0,none⟩) 0 0,by omega,rfl,by omega,(((aj.at rfl).alloc _).alloc _).alloc _,((aj.at (by simp)).alloc _).alloc _,(aj.at (by simp)).alloc _,ay.dV _ _ _ _ (by simp) (by omega),ab (ab (ab (ab (ae w) _) _) _) _⟩
 case round=>
  obtain⟨k,rv,hk,rfl,rfl,hP0,hP1,hP2,hown,hbel⟩:=hrel;by_cases hlt:k<v.l.length
  ·obtain⟨b,off,A',c',rfl,hb,hI,hs,k0,k1,k2,k3,k4⟩:=(E.out.below hbel).bV hlt;obtain⟨p0,p1,p2,p3,p4⟩:=hP0.c5;have HS:=Ad (Ac hI hs);clear hI hs;go_wp2_with fail;refine(IH'.out k hlt A' c' _ (hp.out k hlt) HS.out.1 HS.out.2).mono ?_;rintro e w1 ⟨A1,c1,rfl,hsf,hb1⟩;have HB:=Ad (Ac hown (Ac hsf hb1));have Q0:=Ad (hP0.below hb1);have Q1:=Ad (hP1.below hb1);have Q2:=Ad (hP2.below hb1);have hz0:w.heap.size<w1.heap.size:=Q0.out.lt;have hz1:w.heap.size+1<w1.heap.size:=Q1.out.lt;have hz2:w.heap.size+1+1<w1.heap.size:=Q2.out.lt;have f2:=Q2.out.frozen 4;have hwr:w.heap.size+1+1<wr.heap.size:=hP2.lt;have hbel1:=Ad (ai hbel hb1);clear hb1 hsf hown hP0 hP1 hP2 p0 p1 p2 p3 p4 k0 k1 k2 k3 k4 hbel;obtain⟨p0,p1,p2,p3,p4⟩:=Q0.out.c5;obtain⟨q0,q1,q2,q3,q4⟩:=Q2.out.c5;have htk:(v.l.take k).length=k:=by rw[List.length_take];omega
   have htk1:(v.l.take (k+1)).length=k+1:=by rw[List.length_take];omega
   go_wp2_with(at_builtin;(refine av rfl _ _ 25 rfl rfl rfl (cN 25 _ (w.heap.size+1+1+1) 27 (.agg #[.int .i64 0,.int .i64 0,.int .i64 0,.string .empty,.slice none 0 0]) 64 Tryz.underlying25 bX rfl (by decide) rv (v.l.take k) v.l[k] _ wr _ _ HB.out.1 (ai HB.out.2.2 (ab (ab (ae w1) _) _)) (RF.below (RF.val HS.out.1 HB.out.2.1) (ab (ab (ae w1) _) _)) (aF [_,_,_,_,_] (by simp)) (by rw[htk];omega) (by rw[htk];unfold maxLen;omega) (by omega)) ?_;rintro rv' w2 ⟨ho,hbl,_⟩;rw[←List.take_succ_eq_append_getElem hlt] at ho;obtain⟨Av,cv,rfl⟩:=ho.form;rw[htk1] at ho ⊢;have HO:=Ad (Ac ho hbl);have Q2':=Ad (((Q2.out.alloc _).alloc _).aG hbl (by omega));have f2':=Q2'.out.frozen 4;obtain⟨r0,r1,r2,r3,r4⟩:=Q2'.out.c5;clear ho hbl));go_roundg(v.l.length-(k+1));case measure=>omega
   case rel=>
    refine⟨k+1,.slice Av (k+1) cv,by omega,by go_num,rfl,?_,?_,?_,HO.out.1.set (by simp) _,?_⟩;·exact(((Q0.out.alloc _).alloc _).aG HO.out.2 (by omega)).qe (by simp<;>omega) _
    ·exact(((Q1.out.alloc _).alloc _).aG HO.out.2 (by omega)).qe (by simp<;>omega) _
    ·exact Q2'.out.cT 4 _
    ·exact(ai hbel1.out (ab (ab (ae w1) _) _)).trans (HO.out.2.mono (by omega)) |>.setCell (by simp;omega) _
  ·have e:k=v.l.length:=by omega
   subst e;rw[List.take_length] at hown;obtain⟨Av,cv,rfl⟩:=hown.form;have HO:=Ad (Ac hown hbel);clear hown hbel;obtain⟨p0,p1,p2,p3,p4⟩:=hP0.c5;obtain⟨q0,q1,q2,q3,q4⟩:=hP2.c5;obtain⟨r0,r1,r2,r3,r4⟩:=hP1.c5;have hz1:=hP1.lt;have hz2:=hP2.lt;obtain⟨f0,f1,f2,f3,f4⟩:=hP1.f5;clear hP0 hP1 hP2;go_wp2_with fail;refine bodyPost_ret (v:=.agg #[.int .i64 v.kind,.int .i64 v.n,.int .i64 v.x,.string v.s,.slice Av v.l.length cv]) (by simp[results,Tryz.results69,go_sem, *]) rfl ?_;refine⟨Av,cv,rfl,?_,?_⟩;·refine SF.mono (base:=w.heap.size+1+1+1) ?_ (by omega);refine SF.set (SF.set (SF.set (SF.set (SF.set HO.out.1.sf.2 ?_ _) ?_ _) ?_ _) ?_ _) ?_ _;all_goals(simp;try omega)
   ·refine Below.setCell (Below.setCell (Below.setCell (Below.setCell (Below.setCell HO.out.2 ?_ _) ?_ _) ?_ _) ?_ _) ?_ _;all_goals(simp;try omega)
theorem aR(x a b:Int)(w:World):Calls Tryz.prog 141 #[.int .i64 x,.int .i64 a,.int .i64 b] w (bN w (.bool (decide (a≤x∧x≤b)))):=by
 obtain⟨r,hr⟩: ∃r,r=decide (a≤x∧x≤b):=⟨_,rfl⟩;rw[←hr];have R:=Ad hr;clear hr;by_cases h1:a≤x;·by_cases h2:x≤b;all_goals go_enter Tryz.func141,Tryz.ntmps141;go_wp2_with fail;go_ret;exact⟨by rw[R.out];simp[h1,h2],ae w⟩
 ·go_enter Tryz.func141,Tryz.ntmps141;go_wp2_with fail;go_ret;exact⟨by rw[R.out,decide_eq_false (by omega)];rfl,ae w⟩
theorem bj(x a b:Int)(w:World):Calls Tryz.prog 74 #[.int .i64 x,.int .i64 a,.int .i64 b] w (bN w (.bool (decide (a≤x∧x≤b)))):=by
 obtain⟨r,hr⟩: ∃r,r=decide (a≤x∧x≤b):=⟨_,rfl⟩;rw[←hr];have R:=Ad hr;clear hr;by_cases h1:a≤x;·by_cases h2:x≤b;all_goals go_enter Tryz.func74,Tryz.ntmps74;go_wp2_with fail;go_ret;exact⟨by rw[R.out];simp[h1,h2],ae w⟩
 ·go_enter Tryz.func74,Tryz.ntmps74;go_wp2_with fail;go_ret;exact⟨by rw[R.out,decide_eq_false (by omega)];rfl,ae w⟩
theorem rO(v:aa)(s:GStep)(A:Option Addr)(c:Nat)(w:World)(hn:v.l.length≤1048576)(hI:a8 s.at_):Calls Tryz.prog 145 #[.agg #[.int .i64 v.kind,.int .i64 v.n,.int .i64 v.x,.string v.s,.slice A v.l.length c],.agg #[.int .i64 s.at_,.bool s.name]] w (bN w (.int .i64 (bT v s))):=by
 obtain⟨r,hr⟩: ∃r,r=bT v s:=⟨_,rfl⟩;rw[←hr];unfold bT eI at hr;have hI1:=hI.1;have hI2:=hI.2;clear hI;by_cases h1:v.kind=10
 ·by_cases h2:s.name=true
  all_goals
   simp only[h1,h2,if_true,true_or,true_and,Bool.false_eq_true,if_false] at hr;by_cases h3:s.at_<0;·rw[if_neg (by omega)] at hr;have R:=Ad hr;clear hr;go_enter Tryz.func145,Tryz.ntmps145;go_wp2_with fail;go_ret;exact⟨by rw[R.out];rfl,ab (ab (ae w) _) _⟩
   ·by_cases h4:s.at_>v.l.length;·rw[if_neg (by simp;omega)] at hr;have R:=Ad hr;clear hr;go_enter Tryz.func145,Tryz.ntmps145;go_wp2_with fail;go_ret;exact⟨by rw[R.out];rfl,ab (ab (ae w) _) _⟩
    ·have R:=Ad hr;clear hr;go_enter Tryz.func145,Tryz.ntmps145;go_wp2_with(go_at_call 141;(refine(aR _ _ _ _).mono ?_;rintro e w1 ⟨rfl,hb1⟩;have b1:=Ad (ai (ab (ab (ae w) _) _) hb1);clear hb1));all_goals go_ret;refine⟨?_,b1.out⟩;rw[R.out];split;all_goals first|rfl|(exfalso;simp_all<;>omega)
 ·by_cases h2:s.name=true;·simp only[h1,h2,if_false,false_or,Bool.true_eq_false,false_and,and_false] at hr;have R:=Ad hr;clear hr;go_enter Tryz.func145,Tryz.ntmps145;go_wp2_with fail;go_ret;exact⟨by rw[R.out];rfl,ab (ab (ae w) _) _⟩
  ·simp only[h1,h2,if_false,false_or,true_and] at hr;have R:=Ad hr;clear hr;go_enter Tryz.func145,Tryz.ntmps145;go_wp2_with(go_at_call 141;(refine(aR _ _ _ _).mono ?_;rintro e w1 ⟨rfl,hb1⟩;have b1:=Ad (ai (ab (ab (ae w) _) _) hb1);clear hb1));all_goals go_ret;refine⟨?_,b1.out⟩;rw[R.out];split;all_goals first|rfl|(exfalso;simp_all<;>omega)
theorem vg(v:aa)(s:GStep)(A:Option Addr)(c:Nat)(w:World)(hn:v.l.length≤1048576)(hI:a8 s.at_):Calls Tryz.prog 91 #[.agg #[.int .i64 s.at_,.bool s.name],.agg #[.int .i64 v.kind,.int .i64 v.n,.int .i64 v.x,.string v.s,.slice A v.l.length c]] w (bN w (.int .i64 (bT v s))):=by
 obtain⟨r,hr⟩: ∃r,r=bT v s:=⟨_,rfl⟩;rw[←hr];unfold bT eI at hr;have hI1:=hI.1;have hI2:=hI.2;clear hI;by_cases h0:0≤s.at_∧s.at_≤v.l.length-1
 ·by_cases h1:v.kind=10;·by_cases h2:s.name=true;all_goals simp only[h1,h2,if_true,true_or,true_and,Bool.false_eq_true,if_false] at hr;have R:=Ad hr;clear hr;go_enter Tryz.func91,Tryz.ntmps91;go_wp2_with(go_at_call 74;(refine(bj _ _ _ _).mono ?_;rintro e w1 ⟨rfl,hb1⟩;rw[decide_eq_true h0];obtain⟨hc,hf⟩:=jo hb1;have hz:w.heap.size+1<w1.heap.size:=(by have:=hb1.size;simp at this;omega);have hz':w.heap.size<w1.heap.size:=(by omega);have b1:=Ad (ai (ab (ab (ae w) _) _) hb1);clear hb1));all_goals go_ret;refine⟨?_,b1.out⟩;rw[R.out];split;all_goals first|rfl|(exfalso;simp_all<;>omega)
  ·by_cases h2:s.name=true;all_goals simp only[h1,h2,if_true,if_false,false_or,Bool.true_eq_false,false_and,and_false,true_and] at hr;have R:=Ad hr;clear hr;go_enter Tryz.func91,Tryz.ntmps91;go_wp2_with(go_at_call 74;(refine(bj _ _ _ _).mono ?_;rintro e w1 ⟨rfl,hb1⟩;rw[decide_eq_true h0];obtain⟨hc,hf⟩:=jo hb1;have hz:w.heap.size+1<w1.heap.size:=(by have:=hb1.size;simp at this;omega);have hz':w.heap.size<w1.heap.size:=(by omega);have b1:=Ad (ai (ab (ab (ae w) _) _) hb1);clear hb1));all_goals go_ret;refine⟨?_,b1.out⟩;rw[R.out];(try split);all_goals first|rfl|(exfalso;simp_all<;>omega)
 ·have hr':r= -1:=by rw[hr,if_neg];intro h;have:s.at_≤eI v s:=qi h.1;unfold eI at this;omega
  have R:=Ad hr';clear hr hr';have h0':decide (0≤s.at_∧s.at_≤(v.l.length:Int)-1)=false:=decide_eq_false h0;have H0:=Ad h0;clear h0;go_enter Tryz.func91,Tryz.ntmps91;go_wp2_with(go_at_call 74;(refine(bj _ _ _ _).mono ?_;rintro e w1 ⟨rfl,hb1⟩;rw[h0'];have b1:=Ad (ai (ab (ab (ae w) _) _) hb1);clear hb1));go_ret;exact⟨by rw[R.out];rfl,b1.out⟩
theorem iT(n:Int)(w:World)(hI:a8 n):Calls Tryz.prog 200 #[.int .i64 n] w (bN w (.int .i64 (eT n))):=by
 have hq: ∀x:Int,a8 x→a8 (x.tdiv 10):=fun x hx=>by have h1:=ka x;obtain⟨h2,h3⟩:=hx;refine⟨?_,?_⟩<;>omega
 have hi1:=hI.1;have hi2:=hI.2;have hD:eT n≤19:=yv hI;obtain⟨r,hr⟩: ∃r,r=eT n:=⟨_,rfl⟩;rw[←hr] at hD ⊢;have R:=Ad hr;clear hr;have HQ:=Ad (Ac hq hI);clear hq hI;go_enter Tryz.func200,Tryz.ntmps200;go_wp2_with fail;go_loopg[3,4] ((n.tdiv 10).natAbs) (fun gk kk xx wr=> ∃(k:Nat) (x:Int),kk=.int .i64 k∧xx=.int .i64 x∧gk=x.natAbs∧Hid (k+nd x=r)∧k≤r∧a8 x∧wr=w);case atStart=>exact⟨1,_,rfl,rfl,rfl,by show _=_;rw[R.out,xU],by have:=R.out;have:=xt n;omega,HQ.out.1 n HQ.out.2,rfl⟩
 case round=>
  obtain⟨k,x,rfl,rfl,rfl,hk,hkr,hx,rfl⟩:=hrel;have hx1:=HQ.out.1 x hx;have hi1:=hx.1;have hi2:=hx.2;by_cases h0:x=0
  ·have hb:(x != 0)=false:=by simp[h0]
   have hkr2:k=r:=by have:=hk.out;rw[h0] at this;simpa[nd] using this
   subst hkr2;have HZ:=Ad hx1;clear hx1 hx h0;go_wp2_with fail;go_ret;exact⟨rfl,ae _⟩
  ·have hb:(x != 0)=true:=by simp[h0]
   have hs:=uZ h0;have hk1:k+1≤r:=by have:=hk.out;omega
   have HZ:=Ad (Ac hx1 (Ac h0 (Ac hx hs)));clear hx1 hx h0 hs;go_wp2_with fail;go_roundg((x.tdiv 10).natAbs);case measure=>have:=ka x;have:=HZ.out.2.1;omega
   case rel=>exact⟨k+1,_,by go_num,rfl,rfl,by show _=_;have:=hk.out;have:=HZ.out.2.2.2;omega,hk1,HZ.out.1,rfl⟩
theorem bA(n x:Int)(w:World)(hI:a8 n):Calls Tryz.prog 143 #[.agg #[.int .i64 n,.int .i64 x]] w (bN w (.bool (aZ n x))):=by
 have P0:=Ad (aj.new w 108 #[.int .i64 n,.int .i64 x]);have B0:=Ad (ab (ae w) (.cells #[.int .i64 n,.int .i64 x] 108));have HI:=Ad hI;clear hI;obtain⟨r,hr⟩: ∃r,r=aZ n x:=⟨_,rfl⟩;rw[←hr];unfold aZ at hr;by_cases hx:x=0
 ·have hxb:(x==0)=true:=by simp[hx]
  rw[if_pos hx] at hr;have R:=Ad hr;clear hx hr;go_enter Tryz.func143,Tryz.ntmps143;go_wp2_with fail;refine(aR _ _ _ _).mono ?_;rintro e w1 ⟨rfl,hb1⟩;rw[←R.out];have B1:=Ad (ai B0.out hb1);clear hb1;go_wp2_with fail;go_ret;exact⟨rfl,B1.out⟩
 ·have hxb:(x==0)=false:=by simp[hx]
  rw[if_neg hx] at hr;clear hx;cases hd:decide (-16≤x∧x≤ -1) with|false=>have HD:=Ad hd;rw[hd] at hr;simp only[Bool.false_and] at hr;subst hr;clear hd;go_enter Tryz.func143,Tryz.ntmps143;go_wp2_with fail;refine(aR _ _ _ _).mono ?_;rintro e w1 ⟨rfl,hb1⟩;rw[HD.out];have B1:=Ad (ai B0.out hb1);clear hb1;go_wp2_with fail;go_ret;exact⟨rfl,B1.out⟩|true=>rw[hd,Bool.true_and] at hr;have HD:=Ad hd;clear hd;by_cases hm:n.tmod 10=0;(·(have hmb:(n.tmod 10 != 0)=false:=by simp[hm]);(have hr0:r=false:=by rw[hr];simp[hm]);subst hr0;clear hm hr;go_enter Tryz.func143,Tryz.ntmps143;go_wp2_with fail;refine(aR _ _ _ _).mono ?_;rintro e w1 ⟨rfl,hb1⟩;rw[HD.out];obtain⟨p0,p1⟩:=(P0.out.below hb1).c2;have B1:=Ad (ai B0.out hb1);clear hb1;go_wp2_with fail;go_ret;exact⟨rfl,B1.out⟩);·(have hmb:(n.tmod 10 != 0)=true:=by simp[hm]);(have hr0:r=decide (eT n≤17):=by rw[hr];simp[hm]);obtain⟨q,hq⟩: ∃q,q=eT n:=⟨_,rfl⟩;(have hqi:decide ((q:Int)≤17)=r:=by rw[hr0,hq];simp;omega);have HR:=Ad (Ac hq hqi);clear hm hr hr0 hqi hq;go_enter Tryz.func143,Tryz.ntmps143;go_wp2_with fail;refine(aR _ _ _ _).mono ?_;rintro e w1 ⟨rfl,hb1⟩;rw[HD.out];obtain⟨p0,p1⟩:=(P0.out.below hb1).c2;have B1:=Ad (ai B0.out hb1);clear hb1;go_wp2_with fail;refine(iT n w1 HI.out).mono ?_;rintro e w2 ⟨rfl,hb2⟩;rw[←HR.out.1];have B2:=Ad (ai B1.out hb2);clear hb2;go_wp2_with fail;go_ret;exact⟨by rw[←HR.out.2];rfl,B2.out⟩
theorem pF{m:Int}{j:Nat}(h0: -65535≤m)(h1:m≤65535)(hj:j≤15):wrap64 (m*2^j)=m*2^j:=by
 have h2:(2:Int)^j≤32768:=by have:(2:Nat)^j≤2^15:=Nat.pow_le_pow_right (by omega) hj;(have h3:((2^j:Nat):Int)=(2:Int)^j:=by simp);omega
 have h3:(0:Int)<2^j:=by have:(0:Nat)<2^j:=Nat.pow_pos (by omega);(have h3:((2^j:Nat):Int)=(2:Int)^j:=by simp);omega
 have h4:m*2^j≤65535*32768:=by have h5:m*2^j≤65535*2^j:=Int.mul_le_mul_of_nonneg_right h1 (by omega);omega
 have h5: -65535*32768≤m*2^j:=by have h5: -65535*2^j≤m*2^j:=Int.mul_le_mul_of_nonneg_right h0 (by omega);omega
 unfold wrap64;omega
theorem cQ(m x:Int)(w:World)(hI:a8 m):Calls Tryz.prog 142 #[.agg #[.int .i64 m,.int .i64 x]] w (bN w (.bool (bg m x))):=by
 have P0:=Ad (aj.new w 104 #[.int .i64 m,.int .i64 x]);have B0:=Ad (ab (ae w) (.cells #[.int .i64 m,.int .i64 x] 104));have HI:=Ad hI;clear hI;obtain⟨r,hr⟩: ∃r,r=bg m x:=⟨_,rfl⟩;rw[←hr];unfold bg at hr;by_cases hm0:m=0
 ·have hmb:(m==0)=true:=by simp[hm0]
  rw[if_pos hm0] at hr;have hr2:(x==0)=r:=by rw[hr];rfl
  clear hm0 hr;go_enter Tryz.func142,Tryz.ntmps142;go_wp2_with fail;go_ret;exact⟨rfl,B0.out⟩
 have hmb:(m==0)=false:=by simp[hm0]
 rw[if_neg hm0] at hr;clear hm0;cases hd:decide (-65535≤m∧m≤65535) with|false=>have HD:=Ad hd;rw[hd] at hr;simp only[Bool.false_and] at hr;subst hr;clear hd;go_enter Tryz.func142,Tryz.ntmps142;go_wp2_with fail;refine(aR _ _ _ _).mono ?_;rintro e w1 ⟨rfl,hb1⟩;rw[HD.out];have B1:=Ad (ai B0.out hb1);clear hb1;go_wp2_with fail;go_ret;exact⟨rfl,B1.out⟩|true=>rw[hd,Bool.true_and] at hr;have HD:=Ad hd;clear hd;by_cases hm:m.tmod 2=0;(·(have hm2:(m.tmod 2==0)=true:=by simp[hm]);(have hr0:r=false:=by rw[hr];simp[hm]);subst hr0;clear hm hr;go_enter Tryz.func142,Tryz.ntmps142;go_wp2_with fail;refine(aR _ _ _ _).mono ?_;rintro e w1 ⟨rfl,hb1⟩;rw[HD.out];obtain⟨p0,p1⟩:=(P0.out.below hb1).c2;have B1:=Ad (ai B0.out hb1);clear hb1;go_wp2_with fail;go_ret;exact⟨rfl,B1.out⟩);(have hm2:(m.tmod 2==0)=false:=by simp[hm]);(have hm3:decide (m.tmod 2≠0)=true:=by simp[hm]);rw[hm3,Bool.true_and] at hr;clear hm hm3;cases he:decide (-16≤x∧x≤45) with|false=>have HE:=Ad he;rw[he] at hr;simp only[Bool.false_and] at hr;subst hr;clear he;go_enter Tryz.func142,Tryz.ntmps142;go_wp2_with fail;refine(aR _ _ _ _).mono ?_;rintro e w1 ⟨rfl,hb1⟩;rw[HD.out];obtain⟨p0,p1⟩:=(P0.out.below hb1).c2;have B1:=Ad (ai B0.out hb1);clear hb1;go_wp2_with fail;refine(aR _ _ _ _).mono ?_;rintro e w2 ⟨rfl,hb2⟩;rw[HE.out];have B2:=Ad (ai B1.out hb2);clear hb2;go_wp2_with fail;go_ret;exact⟨rfl,B2.out⟩|true=>have hx:=of_decide_eq_true he;rw[he,Bool.true_and] at hr;have HE:=Ad he;clear he;by_cases h30:x≤30;(·(have hr0:r=true:=by rw[hr];simp[h30]);subst hr0;clear hr;go_enter Tryz.func142,Tryz.ntmps142;go_wp2_with fail;refine(aR _ _ _ _).mono ?_;rintro e w1 ⟨rfl,hb1⟩;rw[HD.out];obtain⟨p0,p1⟩:=(P0.out.below hb1).c2;have P1:=Ad (P0.out.below hb1);have B1:=Ad (ai B0.out hb1);clear hb1;go_wp2_with fail;refine(aR _ _ _ _).mono ?_;rintro e w2 ⟨rfl,hb2⟩;rw[HE.out];obtain⟨q0,q1⟩:=(P1.out.below hb2).c2;have B2:=Ad (ai B1.out hb2);clear hb2;go_wp2_with fail;go_ret;exact⟨rfl,B2.out⟩);·obtain⟨j,hj⟩: ∃j:Nat,x-30=j:=⟨(x-30).toNat,by omega⟩;(have hx30:x=(j:Int)+30:=by omega);subst hx30;(have hj2:j≤15:=by omega);have hle:=decide_eq_false h30;(have hr0:r=decide (-65535≤m*2^j∧m*2^j≤65535):=by rw[hr,show((j:Int)+30-30).toNat=j by omega];simp[h30]);have hbd:=of_decide_eq_true HD.out;have hp:=pF hbd.1 hbd.2 hj2;have HR:=Ad hr0;clear hr hr0 hbd;go_enter Tryz.func142,Tryz.ntmps142;go_wp2_with fail;refine(aR _ _ _ _).mono ?_;rintro e w1 ⟨rfl,hb1⟩;rw[HD.out];obtain⟨p0,p1⟩:=(P0.out.below hb1).c2;have P1:=Ad (P0.out.below hb1);have B1:=Ad (ai B0.out hb1);clear hb1;go_wp2_with fail;refine(aR _ _ _ _).mono ?_;rintro e w2 ⟨rfl,hb2⟩;rw[HE.out];obtain⟨q0,q1⟩:=(P1.out.below hb2).c2;have B2:=Ad (ai B1.out hb2);clear hb2;go_wp2_with fail;refine(aR _ _ _ _).mono ?_;rintro e w3 ⟨rfl,hb3⟩;rw[←HR.out];have B3:=Ad (ai B2.out hb3);clear hb3;go_wp2_with fail;go_ret;exact⟨rfl,B3.out⟩
theorem wI(k:Nat)(w:World)(hk1:k≤17):Calls Tryz.prog 236 #[.int .i64 5,.int .i64 k] w (bN w (.int .i64 ((5^k:Nat):Int))):=by
 have hd:decide ((0:Int)≤k∧(k:Int)≤17)=true:=decide_eq_true ⟨by omega,by omega⟩;have HD:=Ad hd;clear hd;have hle: ∀j,j≤k→5^j≤100000000000000000:=fun j hj=>by have h1:5^j≤10^j:=Nat.pow_le_pow_left (by omega) j;have h2:10^j≤10^17:=Nat.pow_le_pow_right (by omega) (by omega);omega
 have HL:=Ad hle;clear hle;obtain⟨r,hr⟩: ∃r,r=5^k:=⟨_,rfl⟩;rw[←hr];have R:=Ad hr;clear hr;go_enter Tryz.func236,Tryz.ntmps236;go_wp2_with fail;refine(aR _ _ _ _).mono ?_;rintro e w1 ⟨rfl,hb1⟩;rw[HD.out];have B1:=Ad hb1;clear hb1;go_wp2_with fail;go_loopg[5,6] k (fun gk nn i wr=> ∃(j n:Nat),j≤k∧nn=.int .i64 n∧i=.int .i64 j∧gk=k-j∧Hid (n=5^j)∧wr=w1);case atStart=>exact⟨0,1,by omega,rfl,rfl,by omega,rfl,rfl⟩
 case round=>
  obtain⟨j,n,hj,rfl,rfl,rfl,hn,rfl⟩:=hrel;by_cases hlt:j<k
  ·have hi1:(j:Int)<k:=by omega
   have h2:=HL.out (j+1) (by omega);have hs2:Hid (5^(j+1)=n*5):=by show _=_;rw[Nat.pow_succ,hn.out]
   rw[hs2.out] at h2;go_wp2_with fail;go_roundg(k-(j+1));case measure=>omega
   case rel=>exact⟨j+1,n*5,by omega,by go_num,by go_num,rfl,hs2.out.symm,rfl⟩
  ·have e:j=k:=by omega
   subst e;have e:n=r:=by rw[R.out,hn.out]
   subst e;go_wp2_with fail;go_ret;exact⟨rfl,B1.out⟩
theorem vL(k:Nat)(w:World)(hk1:k≤17):Calls Tryz.prog 236 #[.int .i64 10,.int .i64 k] w (bN w (.int .i64 ((10^k:Nat):Int))):=by
 have hd:decide ((0:Int)≤k∧(k:Int)≤17)=true:=decide_eq_true ⟨by omega,by omega⟩;have HD:=Ad hd;clear hd;have hle: ∀j,j≤k→10^j≤100000000000000000:=fun j hj=>by have h1:10^j≤10^j:=Nat.pow_le_pow_left (by omega) j;have h2:10^j≤10^17:=Nat.pow_le_pow_right (by omega) (by omega);omega
 have HL:=Ad hle;clear hle;obtain⟨r,hr⟩: ∃r,r=10^k:=⟨_,rfl⟩;rw[←hr];have R:=Ad hr;clear hr;go_enter Tryz.func236,Tryz.ntmps236;go_wp2_with fail;refine(aR _ _ _ _).mono ?_;rintro e w1 ⟨rfl,hb1⟩;rw[HD.out];have B1:=Ad hb1;clear hb1;go_wp2_with fail;go_loopg[5,6] k (fun gk nn i wr=> ∃(j n:Nat),j≤k∧nn=.int .i64 n∧i=.int .i64 j∧gk=k-j∧Hid (n=10^j)∧wr=w1);case atStart=>exact⟨0,1,by omega,rfl,rfl,by omega,rfl,rfl⟩
 case round=>
  obtain⟨j,n,hj,rfl,rfl,rfl,hn,rfl⟩:=hrel;by_cases hlt:j<k
  ·have hi1:(j:Int)<k:=by omega
   have h2:=HL.out (j+1) (by omega);have hs2:Hid (10^(j+1)=n*10):=by show _=_;rw[Nat.pow_succ,hn.out]
   rw[hs2.out] at h2;go_wp2_with fail;go_roundg(k-(j+1));case measure=>omega
   case rel=>exact⟨j+1,n*10,by omega,by go_num,by go_num,rfl,hs2.out.symm,rfl⟩
  ·have e:j=k:=by omega
   subst e;have e:n=r:=by rw[R.out,hn.out]
   subst e;go_wp2_with fail;go_ret;exact⟨rfl,B1.out⟩
def sd(n x:Int)(b:Bool):Value:=.tuple #[.agg #[.int .i64 n,.int .i64 x],.bool b]
theorem dh{w w':World}(h:Below w.heap.size w w'){b:Nat}(hb:w.heap.size≤b)(u v:Value):Below w.heap.size w ((w'.setCell ⟨b,0,none⟩ u).setCell ⟨b,1,none⟩ v):=(h.setCell (p:=⟨b,0,none⟩) hb u).setCell (p:=⟨b,1,none⟩) hb v
theorem ni(n x:Int)(w:World)(hI:a8 n)(hm:n.tmod 10≠0)(hd17:eT n≤17)(hx0: -16≤x)(hx1:x≤ -1):Calls Tryz.prog 235 #[.int .i64 n,.int .i64 x] w (bN w (sd n x true)):=by
 have P0:=Ad (aj.new w 108 #[.int .i64 0,.int .i64 0]);have B0:=Ad (ab (ae w) (.cells #[.int .i64 0,.int .i64 0] 108));have hok:aZ n x=true:=by unfold aZ;rw[if_neg (by omega)];simp[hm,hd17];omega
 have hd:decide (-40≤x∧x≤40)=true:=decide_eq_true ⟨by omega,by omega⟩;have hn0:(n==0)=false:=by simp;intro e;subst e;exact hm rfl
 have h1:(n.tmod 10==0)=false:=by simp[hm]
 obtain⟨q,hq⟩: ∃q,q=eT n:=⟨_,rfl⟩;rw[←hq] at hd17;have h17': ¬((17:Int)<q):=by omega
 have HI:=Ad (Ac hI (Ac hok (Ac hd hq)));clear hI hok hd hq hm;go_enter Tryz.func235,Tryz.ntmps235;go_wp2_with fail;refine(iT n _ HI.out.1).mono ?_;rintro e w1 ⟨rfl,hb1⟩;rw[←HI.out.2.2.2];have P1:=Ad (P0.out.below hb1);have B1:=Ad (ai B0.out hb1);clear hb1;go_wp2_with fail;refine(aR _ _ _ _).mono ?_;rintro e w2 ⟨rfl,hb2⟩;rw[HI.out.2.2.1];have P2:=Ad (P1.out.below hb2);have B2:=Ad (ai B1.out hb2);clear hb2;go_wp2_with fail;go_loopg[0,1] 0 (fun gk nn xx wr=>nn=.int .i64 n∧xx=.int .i64 x∧wr=w2);case atStart=>exact⟨rfl,rfl,rfl⟩
 case round=>
  obtain⟨rfl,rfl,rfl⟩:=hrel;go_wp2_with fail;go_loopg[0,1] 0 (fun gk nn xx wr=>nn=.int .i64 n∧xx=.int .i64 x∧aj wr w.heap.size 108 #[.int .i64 0,.int .i64 0]∧Below w.heap.size w wr);case atStart=>exact⟨rfl,rfl,P2.out,B2.out⟩
  case round=>
   rename_i wr2;obtain⟨rfl,rfl,hP,hbel⟩:=hrel;have hzr:w.heap.size<wr.heap.size:=hP.lt;have HP:=Ad (Ac hP hbel);clear hP hbel;have PX:=Ad (aj.new wr 108 #[.int .i64 n,.int .i64 x]);have hx': ¬(0<x):=by omega
   go_wp2_with fail;refine(bA n x _ HI.out.1).mono ?_;rintro e w3 ⟨rfl,hb3⟩;rw[HI.out.2.1];have P3:=Ad ((HP.out.1.alloc (.cells #[.int .i64 n,.int .i64 x] 108)).below hb3);have X3:=Ad (PX.out.below hb3);have B3:=Ad (ai (ab HP.out.2 _) hb3);clear hb3;have hz3:w.heap.size<w3.heap.size:=P3.out.lt;have hz4:wr.heap.size<w3.heap.size:=X3.out.lt;have n1:wr.heap.size≠w.heap.size:=by omega
   have n2:w.heap.size≠wr.heap.size:=by omega
   have f0:=P3.out.frozen 0;have f1:=P3.out.frozen 1;obtain⟨p0,p1⟩:=P3.out.c2;obtain⟨q0,q1⟩:=X3.out.c2;go_wp2_with fail;refine bodyPost_ret (v:=sd n x true) (by simp[results,sd,Tryz.results235,go_sem, *]<;>rfl) rfl ?_;exact⟨rfl,dh B3.out (Nat.le_refl _) _ _⟩
theorem rT{m:Int}{j:Nat}(h0: -65535≤m)(h1:m≤65535)(hodd:m.tmod 2≠0)(hj:1≤j)(hj2:j≤16):a8 (m*(5^j:Nat))∧(m*(5^j:Nat)).tmod 10≠0∧eT (m*(5^j:Nat))≤17∧wrap64 (m*(5^j:Nat))=m*(5^j:Nat):=by
 have t2:(m.tmod 2).natAbs=m.natAbs%2:=by rw[Int.natAbs_tmod];rfl
 have h2:(5^j:Nat)≤5^16:=Nat.pow_le_pow_right (by omega) hj2;have hp:0<(5^j:Nat):=Nat.pow_pos (by omega);have ho:(5^j:Nat)%2=1:=by clear h2 hp hj hj2;induction j with|zero=>rfl|succ j ih=>rw[Nat.pow_succ];omega
 generalize(5^j:Nat)=q at h2 hp ho;have h4:m*q≤65535*152587890625:=by have h5:m*q≤65535*q:=Int.mul_le_mul_of_nonneg_right h1 (by omega);omega
 have h5: -65535*152587890625≤m*q:=by have h5: -65535*q≤m*q:=Int.mul_le_mul_of_nonneg_right h0 (by omega);omega
 have hmo:m%2=1:=by omega
 have hq2:(q:Int)%2=1:=by omega
 have hmq:(m*q)%2=1:=by rw[Int.mul_emod,hmo,hq2];rfl
 generalize m*(q:Int)=z at h4 h5 hmq;have t10:(z.tmod 10).natAbs=z.natAbs%10:=by rw[Int.natAbs_tmod];rfl
 refine⟨⟨by omega,by omega⟩,by omega,by rw[jD];omega,by unfold wrap64;omega⟩
theorem dF{m x:Int}(h:bg m x=true):(m=0∧x=0)∨(m≠0∧ -65535≤m∧m≤65535∧m.tmod 2≠0∧ -16≤x∧x≤45∧(x≤30∨(-65535≤m*2^(x-30).toNat∧m*2^(x-30).toNat≤65535))):=by
 unfold bg at h;by_cases hm:m=0;·rw[if_pos hm] at h;exact .inl ⟨hm,of_decide_eq_true h⟩
 ·rw[if_neg hm] at h;simp only[Bool.and_eq_true,Bool.or_eq_true,decide_eq_true_eq] at h;obtain⟨⟨⟨⟨h1,h2⟩,h3⟩,h4,h5⟩,h6⟩:=h;exact .inr ⟨hm,h1,h2,h3,h4,h5,h6⟩
theorem qY{m:Int}{j:Nat}(h:bg m j=true): -70368744177664<m*2^j∧m*2^j<70368744177664:=by
 rcases dF h with⟨rfl,h2⟩|⟨_,h1,h2,_,_,h5,h6⟩;·simp
 ·have hb: ∀(z:Int)(i:Nat),-65535≤z→z≤65535→i≤30→ -70368744177664<z*2^i∧z*2^i<70368744177664:=fun z i h1 h2 hi=>by(have h3:((2^i:Nat):Int)=(2:Int)^i:=by simp);have h4:(2:Nat)^i≤2^30:=Nat.pow_le_pow_right (by omega) hi;have h5:0<(2:Nat)^i:=Nat.pow_pos (by omega);have h6:z*2^i≤65535*2^i:=Int.mul_le_mul_of_nonneg_right h2 (by omega);have h7: -65535*2^i≤z*2^i:=Int.mul_le_mul_of_nonneg_right h1 (by omega);omega
  by_cases hj:j≤30;·exact hb m j h1 h2 hj
  ·have h7:=h6.resolve_left (by omega);have e:m*2^j=(m*2^((j:Int)-30).toNat)*2^30:=by rw[Int.mul_assoc,←Int.pow_add];congr 2;omega
   rw[e];exact hb _ 30 h7.1 h7.2 (Nat.le_refl _)
def nN(m x:Int):Value:=.agg #[.int .i64 (aI m x).1,.int .i64 (aI m x).2]
theorem fT(m x:Int)(w:World)(hok:bg m x=true):Calls Tryz.prog 179 #[.agg #[.int .i64 m,.int .i64 x]] w (bN w (nN m x)):=by
 have B0:=Ad (ab (ab (ae w) (.cells #[.int .i64 m,.int .i64 x] 104)) (.cells #[.int .i64 0,.int .i64 0] 108));have P0:=Ad ((aj.new w 104 #[.int .i64 m,.int .i64 x]).alloc (.cells #[.int .i64 0,.int .i64 0] 108));have P1:=Ad (aj.at (w:=w.alloc (.cells #[.int .i64 m,.int .i64 x] 104)) (g:=w.heap.size+1) (t:=108) (cs:=#[.int .i64 0,.int .i64 0]) (by simp));have hI:a8 m:=by rcases dF hok with⟨rfl,_⟩|⟨_,h1,h2,_⟩<;>exact⟨by omega,by omega⟩
 have hc:=dF hok;have HI:=Ad (Ac hI (Ac hok hc));unfold nN aI;by_cases hx:0≤x
 ·obtain⟨j,rfl⟩: ∃j:Nat,x=j:=⟨x.toNat,by omega⟩;have hb:=qY hok;have hw:wrap64 (m*2^j)=m*2^j:=by unfold wrap64;omega
  rw[if_pos hx,show((j:Int)).toNat=j by omega];have hj45:j≤45:=by rcases hc with h|h;(·omega);·have:=h.2.2.2.2.2.1;omega
  clear hI hok hc hb;go_enter Tryz.func179,Tryz.ntmps179;go_wp2_with fail;refine(cQ m j _ HI.out.1).mono ?_;rintro e w1 ⟨rfl,hb1⟩;rw[HI.out.2.1];have Q0:=Ad (P0.out.below hb1);have Q1:=Ad (P1.out.below hb1);have B1:=Ad (ai B0.out hb1);clear hb1;have hz1:w.heap.size+1<w1.heap.size:=Q1.out.lt;obtain⟨p0,p1⟩:=Q0.out.c2;obtain⟨q0,q1⟩:=Q1.out.c2;have f0:=Q1.out.frozen 0;have f1:=Q1.out.frozen 1;go_wp2_with fail;refine bodyPost_ret (v:=.agg #[.int .i64 (m*2^j),.int .i64 0]) (by simp[results,Tryz.results179,go_sem, *]<;>rfl) rfl ?_;exact⟨rfl,dh B1.out (by omega) _ _⟩
 ·rw[if_neg hx];obtain⟨j,hj⟩: ∃j:Nat,-x=j:=⟨(-x).toNat,by omega⟩;have hn:=hc.resolve_left (fun h=>by omega);have hnear:=rT hn.2.1 hn.2.2.1 hn.2.2.2.1 (j:=j) (by omega) (by have:=hn.2.2.2.2.1;omega);rw[show(-x).toNat=j by omega];have hxj:x= -(j:Int):=by omega
  have hj16:j≤16:=by have:=hn.2.2.2.2.1;omega
  have hj1:1≤j:=by omega
  obtain⟨q,hq⟩: ∃q:Nat,q=5^j:=⟨_,rfl⟩;have hq2:m*5^j=m*(q:Int):=by rw[hq];simp
  rw[hq2];rw[←hq] at hnear;have hwq:IntKind.i64.wrap (m*(q:Int))=m*(q:Int):=by rw[IntKind.wrap_i64];have:=hnear.1.1;have:=hnear.1.2;omega
  have hwx:IntKind.i64.wrap (-x)=(j:Int):=by rw[IntKind.wrap_i64];omega
  have hx':x<0:=by omega
  have hPow: ∀w,Calls Tryz.prog 236 #[.int .i64 5,.int .i64 (j:Int)] w (bN w (.int .i64 (q:Int))):=fun w=>by rw[hq];exact wI j w (by omega)
  have HP:=Ad hPow;have hxr: -16≤x∧x≤ -1:=⟨by omega,by omega⟩;have HN:=Ad (Ac hnear hxr);clear hI hok hc hn hnear hPow hq hq2 hxj hj16 hj1 hj hx hxr;go_enter Tryz.func179,Tryz.ntmps179;go_wp2_with fail;refine(cQ m x _ HI.out.1).mono ?_;rintro e w1 ⟨rfl,hb1⟩;rw[HI.out.2.1];have Q0:=Ad (P0.out.below hb1);have Q1:=Ad (P1.out.below hb1);have B1:=Ad (ai B0.out hb1);clear hb1;have hz1:w.heap.size+1<w1.heap.size:=Q1.out.lt;obtain⟨p0,p1⟩:=Q0.out.c2;obtain⟨q0,q1⟩:=Q1.out.c2;have f0:=Q1.out.frozen 0;have f1:=Q1.out.frozen 1;have hb0:w.heap.size<w1.heap.size:=by omega
  have m1:w.heap.size≠w1.heap.size:=by omega
  have m1':w1.heap.size≠w.heap.size:=by omega
  go_wp2_with fail;go_cut[3,4] from 19 to 30 (fun s3 s4 wx=> ∃gy,s3=.pointer (some ⟨gy,0,none⟩)∧s4=.bool true∧w1.heap.size≤gy∧aj wx gy 108 #[.int .i64 (m*(q:Int)),.int .i64 x]∧Below w1.heap.size w1 wx)
  case first=>
   go_region_held3(fun u=>u.cell? ⟨w.heap.size,0,none⟩=some (.int .i64 m)∧u.cell? ⟨w.heap.size,1,none⟩=some (.int .i64 x)) (go_keep) (first|(go_at_call 236;(refine(HP.out _).mono ?_;rintro e w3 ⟨rfl,hb3⟩;have HB3:=Ad (show Below w1.heap.size w1 w3 from(by first|exact ai (ae w1).drew hb3|exact ai (ab (ae w1) _).drew hb3));have i0:=(HB3.out.cell (p:=⟨w.heap.size,_,none⟩) hb0).trans p0;have i1:=(HB3.out.cell (p:=⟨w.heap.size,_,none⟩) hb0).trans p1;have HR3:=Ad hb3;obtain⟨hc3,hf3⟩:=jo hb3;have hs3:=hb3.size;(try simp at hs3);(try have hs3':w1.heap.size<w3.heap.size:=(by omega));have hz3:w1.heap.size≤w3.heap.size:=HB3.out.size;have m3:w.heap.size≠w3.heap.size:=(by omega);have m3':w3.heap.size≠w.heap.size:=(by omega);clear hb3))|(go_at_call 235;(refine(ni _ x _ HN.out.1.1 HN.out.1.2.1 HN.out.1.2.2.1 HN.out.2.1 HN.out.2.2).mono ?_;rintro e w4 ⟨rfl,hb4⟩;unfold sd;have HB4:=Ad (show Below w1.heap.size w1 w4 from(by first|exact ai HB3.out hb4|exact ai (ab HB3.out _) hb4));have j0:=(HB4.out.cell (p:=⟨w.heap.size,_,none⟩) hb0).trans p0;have j1:=(HB4.out.cell (p:=⟨w.heap.size,_,none⟩) hb0).trans p1;have HR4:=Ad hb4;obtain⟨hc4,hf4⟩:=jo hb4;have hs4:=hb4.size;(try simp at hs4);(try have hs4':w3.heap.size<w4.heap.size:=(by omega));(try have hs4'':w1.heap.size<w4.heap.size:=(by omega));have hz4:w1.heap.size≤w4.heap.size:=HB4.out.size;have m4:w.heap.size≠w4.heap.size:=(by omega);have m4':w4.heap.size≠w.heap.size:=(by omega);clear hb4)));·go_wp2_with fail;go_meet;exact⟨w4.heap.size,rfl,rfl,hz4,aj.at rfl,ab HB4.out _⟩
   ·go_wp2_with fail;go_meet;refine⟨w3.heap.size,rfl,rfl,hz3,((((aj.new w3 _ _).below HR4.out).cT 0 _).cT 1 _),(HB4.out.setCell (p:=⟨w3.heap.size,0,none⟩) hz3 _).setCell (p:=⟨w3.heap.size,1,none⟩) hz3 _⟩
   ·go_wp2_with fail;go_meet;refine⟨w1.heap.size,rfl,rfl,Nat.le_refl _,(((((aj.new w1 _ _).drew.below HR3.out).below HR4.out).cT 0 _).cT 1 _),dh HB4.out (Nat.le_refl _) _ _⟩
  case rest=>
   obtain⟨gy,rfl,rfl,hgy,hY,hbx⟩:=hcut;obtain⟨y0,y1⟩:=hY.c2;have R1:=Q1.out.below hbx;have hz2:w.heap.size+1<wc.heap.size:=R1.lt;have g0:=R1.frozen 0;have g1:=R1.frozen 1;obtain⟨r0,r1⟩:=R1.c2;have n1:gy≠w.heap.size+1:=by omega
   have n2:w.heap.size+1≠gy:=by omega
   have HX:=Ad (ai B1.out hbx);clear hbx hY p0 p1 q0 q1 f0 f1;go_wp2_with fail;refine bodyPost_ret (v:=.agg #[.int .i64 (m*(q:Int)),.int .i64 x]) (by simp[results,Tryz.results179,go_sem, *]<;>rfl) rfl ?_;exact⟨rfl,dh HX.out (by omega) _ _⟩
end Go.Proofs.YtodpdjehjllhdaaGreatDoor
