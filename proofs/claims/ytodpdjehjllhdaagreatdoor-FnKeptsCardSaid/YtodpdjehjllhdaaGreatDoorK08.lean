/- Part of a proof: contracts and plain laws. -/
import Derived.Test.YtodpdjehjllhdaaGreatDoorK07
import Derived.Lib.ConvBytes
set_option linter.unusedVariables false
set_option linter.unusedSimpArgs false
set_option maxRecDepth 100000
set_option maxHeartbeats 20000000
namespace Go.Proofs.YtodpdjehjllhdaaGreatDoor
open Go.RowKit
theorem jM(n x:Int)(w:World)(hok:aZ n x=true):Calls Tryz.prog 318 #[.agg #[.int .i64 n,.int .i64 x]] w (bN w (.bool (fe n x))):=by
 obtain⟨hb0,hb1,hb2,hb3⟩:=qt hok;have B0:=Ad (ab (ae w) (.cells #[.int .i64 n,.int .i64 x] 108));have P0:=Ad (aj.new w 108 #[.int .i64 n,.int .i64 x]);have HK:=Ad hok;clear hok;obtain⟨q,hq⟩: ∃q,q=fe n x:=⟨_,rfl⟩;rw[←hq];rcases hr:eM n x with _|⟨m,e⟩;·rw[mr hr] at hq;subst hq;have HR:=Ad hr;clear hr;go_enter Tryz.func318,Tryz.ntmps318;go_wp2_with fail;refine(dc n x _ HK.out hb0 hb1 hb2 hb3).mono ?_;rintro e w1 ⟨rfl,hb⟩;rw[HR.out];unfold br;have HB:=Ad (ai B0.out hb);clear hb;have hle:=HB.out.size;go_wp2_with fail;go_quiet(fail);go_wp2_with fail;go_ret;exact⟨rfl,by first|exact below_drewN (ab HB.out _) _|exact ab HB.out _⟩
 ·have hf:=nL hr;rw[gu hr] at hq;have HQ:=Ad (show Hid (q=decide (((aI m e).1,(aI m e).2)=(n,x))) from hq);clear hq;have HR:=Ad hr;clear hr;have HF:=Ad hf;clear hf;obtain⟨a,ha⟩: ∃a,a=(aI m e).1:=⟨_,rfl⟩;obtain⟨b,hb⟩: ∃b,b=(aI m e).2:=⟨_,rfl⟩;have hfd:nN m e=.agg #[.int .i64 a,.int .i64 b]:=by unfold nN;rw[ha,hb]
  have heq:=uW a b n x;have HQ2:Hid (decide ((a,b)=(n,x))=q):=by show _=_;rw[HQ.out.out,ha,hb]
  rw[HQ2.out] at heq;have HD:=Ad hfd;clear hfd ha hb HQ;cases q
  all_goals
   go_enter Tryz.func318,Tryz.ntmps318;go_wp2_with fail;refine(dc n x _ HK.out hb0 hb1 hb2 hb3).mono ?_;rintro e1 w1 ⟨rfl,hb⟩;rw[HR.out];unfold br;have P1:=Ad (P0.out.below hb);have HB:=Ad (ai B0.out hb);clear hb;have hle:=HB.out.size;have hz1:=P1.out.lt;obtain⟨p0,p1⟩:=P1.out.c2;have n1:w.heap.size≠w1.heap.size:=by omega
   have n1':w1.heap.size≠w.heap.size:=by omega
   go_wp2_with fail;go_region_held3(fun u=>u.cell? ⟨w.heap.size,0,none⟩=some (.int .i64 n)∧u.cell? ⟨w.heap.size,1,none⟩=some (.int .i64 x)∧u.cell? ⟨w1.heap.size,0,none⟩=some (.int .i64 m)∧u.cell? ⟨w1.heap.size,1,none⟩=some (.int .i64 e)) (go_keep) (first|(go_at_call 179;(refine(fT m e _ HF.out).mono ?_;rintro e2 w2 ⟨rfl,hb⟩;rw[HD.out];have P2:=Ad (show aj w2 w.heap.size 108 #[.int .i64 n,.int .i64 x] from(by first|exact(P1.out.alloc _).below hb|exact(P1.out.alloc _).drew.below hb));obtain⟨r0,r1⟩:=P2.out.c2;have hz2:=P2.out.lt;have Q2:=Ad (show aj w2 w1.heap.size 104 #[.int .i64 m,.int .i64 e] from(by first|exact(aj.new w1 _ _).below hb|exact(aj.new w1 _ _).drew.below hb));obtain⟨t0,t1⟩:=Q2.out.c2;have hz3:=Q2.out.lt;have HB2:=Ad (show Below w.heap.size w w2 from(by first|exact ai (ab HB.out _) hb|exact ai ((ab HB.out _).drew) hb));clear hb)));·go_wp2_with fail;go_ret;exact⟨rfl,HB2.out⟩
theorem jf(m e:Int)(w:World):Calls Tryz.prog 118 #[.agg #[.int .i64 m,.int .i64 e]] w (bN w (aX 4 m e {data:=#[]})):=by
 have B0:=Ad (ab (ae w) (.cells #[.int .i64 m,.int .i64 e] 104));go_enter Tryz.func118,Tryz.ntmps118;go_wp2_with fail;refine bodyPost_ret (v:=aX 4 m e {data:=#[]}) (by simp[results,aX,Tryz.results118,go_sem, *]) rfl ?_;exact⟨rfl,ab B0.out _⟩
theorem oN(n:Int)(w:World):Calls Tryz.prog 116 #[.int .i64 n] w (bN w (aX 3 n 0 {data:=#[]})):=by
 have B0:=Ad (ae w);go_enter Tryz.func116,Tryz.ntmps116;go_wp2_with fail;refine bodyPost_ret (v:=aX 3 n 0 {data:=#[]}) (by simp[results,aX,Tryz.results116,go_sem, *]) rfl ?_;exact⟨rfl,ab B0.out _⟩
theorem iz(s:ByteArray)(w:World):Calls Tryz.prog 122 #[.string s] w (bN w (aX 7 0 0 s)):=by
 have B0:=Ad (ae w);go_enter Tryz.func122,Tryz.ntmps122;go_wp2_with fail;refine bodyPost_ret (v:=aX 7 0 0 s) (by simp[results,aX,Tryz.results122,go_sem, *]) rfl ?_;exact⟨rfl,ab B0.out _⟩
theorem lq(n x:Int)(w:World):Calls Tryz.prog 120 #[.agg #[.int .i64 n,.int .i64 x]] w (bN w (aX (bZ n x).kind (bZ n x).n (bZ n x).x {data:=#[]})):=by
 have BD:=Ad (ab (ae w) (.cells #[.int .i64 n,.int .i64 x] 108));have B0:=Ad (ab (ab (ae w) (.cells #[.int .i64 n,.int .i64 x] 108)) (.cells #[.int .i64 0,.int .i64 0,.int .i64 0,.string .empty,.slice none 0 0] 27));unfold bZ;by_cases hx:x=0;·subst hx;simp only[if_true];go_enter Tryz.func120,Tryz.ntmps120;go_wp2_with fail;refine(oN n _).mono ?_;rintro e1 w1 ⟨rfl,hb⟩;have P1:=Ad ((aj.at (w:=w.alloc (.cells #[.int .i64 n,.int .i64 0] 108)) (g:=w.heap.size+1) (t:=27) (cs:=#[.int .i64 0,.int .i64 0,.int .i64 0,.string .empty,.slice none 0 0]) (by simp)).below hb);have HB:=Ad (ai B0.out hb);clear hb;have hz:=P1.out.lt;obtain⟨f0,f1,f2,f3,f4⟩:=P1.out.f5;obtain⟨p0,p1,p2,p3,p4⟩:=P1.out.c5;unfold aX;go_wp2_with fail;refine bodyPost_ret (v:=aX 3 n 0 {data:=#[]}) (by simp[results,aX,Tryz.results120,go_sem, *]) rfl ?_;exact⟨rfl,cz HB.out (by simp;try omega) _ _ _ _ _⟩
 ·simp only[if_neg hx];go_enter Tryz.func120,Tryz.ntmps120;go_wp2_with fail;refine bodyPost_ret (v:=aX 6 n x {data:=#[]}) (by simp[results,aX,Tryz.results120,go_sem, *]) rfl ?_;exact⟨rfl,ab BD.out _⟩
theorem dG:(Tryz.prog.info? 5).map (fun i=>(i.zero,i.size,i.bytes))=some (some (.int .u8 0),1,1):=by
 kernel_rfl
theorem fL: ∀(w:World)(F:List Nat)(a:UInt8)(cs:List Value),aE.rp w F a cs→F=[]:=fun _ _ _ _ h=>h.1
theorem tx: ∀b:Fin 256,bits BinOp.and IntKind.u8 (b.val:Int) 15=(b.val:Int)%16:=by
 decide+kernel
theorem wM(b:UInt8):bits BinOp.and IntKind.u8 (b.toNat:Int) 15=(b.toNat:Int)%16:=tx ⟨b.toNat,b.toNat_lt⟩
theorem pK(l:List UInt8)(b:UInt8):oh (l++[b])=oh l++[nh (b.toNat/16),nh (b.toNat%16)]:=by
 simp[oh]
def qZ:ByteArray:={data:=#[48,49,50,51,52,53,54,55,56,57,97,98,99,100,101,102]}
theorem tF: ∀i:Fin 16,qZ.data.toList[i.val]? =some (nh i.val):=by
 decide+kernel
theorem jF(n:Nat)(h:n<qZ.size)(x:Nat)(hn:n=x):qZ[n]'h=nh x:=by
 subst hn;have h':n<16:=h;have h1:=tF ⟨n,h'⟩;have hl:n<qZ.data.toList.length:=by simpa using h
 rw[List.getElem?_eq_getElem hl] at h1;exact Option.some.inj h1
theorem SA.zv(w:World)(t:TypeId)(a b:UInt8):SA (w.alloc (.cells #[.int .u8 (a.toNat:Int),.int .u8 (b.toNat:Int)] t)) [a,b] (some ⟨w.heap.size,0,none⟩) 2:=by
 refine⟨[w.heap.size],⟨by simp,by unfold maxLen;omega,.inr ⟨w.heap.size,0,[],[.int .u8 (a.toNat:Int),.int .u8 (b.toNat:Int)],rfl,rfl,⟨[],[],[_],[_],rfl,rfl,⟨rfl,rfl⟩,⟨[],[],[_],[],rfl,rfl,⟨rfl,rfl⟩,rfl,rfl⟩⟩,?_⟩⟩,by simp⟩;intro j v hj;have hc:=aF (w:=w) (t:=t) (g:=w.heap.size) [.int .u8 (a.toNat:Int),.int .u8 (b.toNat:Int)] rfl j v hj;have e1:(⟨w.heap.size,0,none⟩:Addr).add j=⟨w.heap.size,0+j,none⟩:=by unfold Addr.add;split;(·rename_i h;subst h;rfl);·simp
 rw[e1] at hc;exact hc
theorem mR(s:ByteArray)(w:World)(hs:s.size≤1048576):Calls Tryz.prog 274 #[.string s] w (bN w (.string (ng s))):=by
 have hl:s.data.toList.length=s.size:=by rw[Array.length_toList];rfl
 go_enter Tryz.func274,Tryz.ntmps274;go_wp2_with fail;go_loopg[3,4] s.size (fun gk rv i wr=> ∃(k:Nat),k≤s.size∧i=.int .i64 k∧gk=s.size-k∧ay wr w.heap.size 5 rv (oh (s.data.toList.take k))∧Below w.heap.size w wr);case atStart=>exact⟨0,by omega,rfl,by omega,ay.dV _ _ _ _ (by simp) (by omega),ab (ae w) _⟩
 case round=>
  obtain⟨k,hk,rfl,rfl,hown,hbel⟩:=hrel;by_cases hlt:k<s.size
  ·have hi1:(k:Int)<s.size:=by omega
   have hi3:(0:Int)≤k:=by omega
   have HO:=Ad (Ac hown hbel);clear hown hbel;have hb:=(s[k]).toNat_lt;have hd1:(0≤((s[k]).toNat:Int)/16)∧((s[k]).toNat:Int)/16<16:=by omega
   have hd2:(0≤((s[k]).toNat:Int)%16)∧((s[k]).toNat:Int)%16<16:=by omega
   have hbt:=wM s[k];have hx1: ∀h:((((s[k]'hlt).toNat:Int)/16).toNat<ByteArray.size ({data:=#[48,49,50,51,52,53,54,55,56,57,97,98,99,100,101,102]}:ByteArray)),({data:=#[48,49,50,51,52,53,54,55,56,57,97,98,99,100,101,102]}:ByteArray)[(((s[k]'hlt).toNat:Int)/16).toNat]'h=nh ((s[k]'hlt).toNat/16):=fun h=>jF _ h _ (by omega);have hx2: ∀h:((((s[k]'hlt).toNat:Int)%16).toNat<ByteArray.size ({data:=#[48,49,50,51,52,53,54,55,56,57,97,98,99,100,101,102]}:ByteArray)),({data:=#[48,49,50,51,52,53,54,55,56,57,97,98,99,100,101,102]}:ByteArray)[(((s[k]'hlt).toNat:Int)%16).toNat]'h=nh ((s[k]'hlt).toNat%16):=fun h=>jF _ h _ (by omega);go_wp2_with fail;go_region_held3(fun u=>True) (trivial) (first|((apply aM (s:=.tmp 12) (x:=.tmp 23) (t:=22) (v:=u3) (u:=.slice (some ⟨wr.heap.size,0,none⟩) 2 2);(try case hgd=>exact rfl);(try case ho=>exact rfl);(try case hs=>exact rfl);(try case hx=>exact rfl);(case hrun=>exact a7 (P:=Tryz.prog) fL 22 22 w.heap.size 5 (.int .u8 0) 1 Tryz.underlying22 dG rfl (by decide) u3 (oh (s.data.toList.take k)) [_,_] _ _ (HO.out.1.below (ab (ae wr).drew _)) (SA.zv wr.drew _ _ _) (by rw[gS,List.length_take];simp;omega) (by rw[gS,List.length_take];unfold maxLen;simp;omega) (by have:=HO.out.2.size;simp;omega));rintro v1 w1 ⟨ho,hbl,_,hg⟩;have HO1:=Ad (Ac ho (show Below w.heap.size w w1 from(HO.out.2.trans ((ab (ae wr).drew _).mono HO.out.2.size)).trans hbl));clear ho hbl hg)))
   all_goals
    go_wp2_with fail;go_roundg(s.size-(k+1));case measure=>omega
    case rel=>
     refine⟨k+1,by omega,by go_num,rfl,?_,HO1.out.2⟩;have hlt':k<s.data.toList.length:=by omega
     rw[List.take_succ_eq_append_getElem hlt',pK];exact HO1.out.1
  ·have e:k=s.size:=by omega
   rw[e,←hl,List.take_length] at hown;obtain⟨Av,cv,rfl⟩:=hown.form;have hcv:=bd (P:=Tryz.prog) (src:=22) (dst:=9) Tryz.underlying22 Tryz.underlying5 Tryz.underlying9 hown.sf.2.sa;have HB:=Ad hbel;clear hbel hown;go_wp2_with fail;go_ret;exact⟨rfl,HB.out⟩
theorem qp(k n x:Int)(s:ByteArray)(A:Option Addr)(m c:Nat)(w:World)(hok:aZ n x=true):Calls Tryz.prog 273 #[.agg #[.int .i64 k,.int .i64 n,.int .i64 x,.string s,.slice A m c]] w (bN w (.tuple #[aX (aD n x).1.kind (aD n x).1.n (aD n x).1.x {data:=#[]},.int .i64 (aD n x).2])):=by
 obtain⟨hb0,hb1,hb2,hb3⟩:=qt hok;have HK:=Ad hok;clear hok;have B0:=Ad (ab (ab (ab (ae w) (.cells #[.int .i64 k,.int .i64 n,.int .i64 x,.string s,.slice A m c] 27)) (.cells #[.int .i64 0,.int .i64 0,.int .i64 0,.string .empty,.slice none 0 0] 27)) (.cells #[.int .i64 n,.int .i64 x] 108));have Z0:=Ad ((aj.at (w:=w.alloc (.cells #[.int .i64 k,.int .i64 n,.int .i64 x,.string s,.slice A m c] 27)) (g:=w.heap.size+1) (t:=27) (cs:=#[.int .i64 0,.int .i64 0,.int .i64 0,.string .empty,.slice none 0 0]) (by simp)).alloc (.cells #[.int .i64 n,.int .i64 x] 108));have D0:=Ad (aj.at (w:=(w.alloc (.cells #[.int .i64 k,.int .i64 n,.int .i64 x,.string s,.slice A m c] 27)).alloc (.cells #[.int .i64 0,.int .i64 0,.int .i64 0,.string .empty,.slice none 0 0] 27)) (g:=w.heap.size+1+1) (t:=108) (cs:=#[.int .i64 n,.int .i64 x]) (by simp));unfold aD;rcases hr:eM n x with _|⟨m1,e1⟩;·have HR:=Ad hr;clear hr;unfold i6;simp only;go_enter Tryz.func273,Tryz.ntmps273;go_wp2_with fail;refine(dc n x _ HK.out hb0 hb1 hb2 hb3).mono ?_;rintro e w1 ⟨rfl,hb⟩;rw[HR.out];unfold br;have Z1:=Ad (Z0.out.below hb);have HB:=Ad (ai B0.out hb);clear hb;obtain⟨f0,f1,f2,f3,f4⟩:=Z1.out.f5;obtain⟨p0,p1,p2,p3,p4⟩:=Z1.out.c5;have hzz:=Z1.out.lt;go_wp2_with fail;refine bodyPost_ret (v:=.tuple #[aX 1 0 0 {data:=#[]},.int .i64 3]) (by simp[results,aX,Tryz.results273,go_sem, *]) rfl ?_;exact⟨rfl,by first|exact ab (cz HB.out (by omega) _ _ _ _ _) _|exact cz (ab HB.out _) (by simp;try omega) _ _ _ _ _⟩
 ·have HX:=Ad (show Hid (fe n x=decide (aI m1 e1=(n,x))) from gu hr);have HR:=Ad hr;clear hr;simp only;by_cases hq:aI m1 e1=(n,x)
  ·have hX2:fe n x=true:=by rw[HX.out.out];simpa using hq
   have HX2:=Ad hX2;clear hX2;rw[if_pos hq];clear hq HX;go_enter Tryz.func273,Tryz.ntmps273;go_wp2_with fail;refine(dc n x _ HK.out hb0 hb1 hb2 hb3).mono ?_;rintro e w1 ⟨rfl,hb⟩;rw[HR.out];unfold br;have Z1:=Ad (Z0.out.below hb);have D1:=Ad (D0.out.below hb);have HB:=Ad (ai B0.out hb);clear hb;obtain⟨d0,d1⟩:=D1.out.c2;have hd:=D1.out.lt;go_wp2_with fail;refine(jM n x _ HK.out).mono ?_;rintro e w2 ⟨rfl,hb⟩;rw[HX2.out];have Z2:=Ad ((Z1.out.alloc (.cells #[.int .i64 m1,.int .i64 e1] 104)).below hb);have F2:=Ad ((aj.new w1 104 #[.int .i64 m1,.int .i64 e1]).below hb);have HB2:=Ad (ai (ab HB.out _) hb);clear hb;obtain⟨g0,g1⟩:=F2.out.c2;have hg:=F2.out.lt;go_wp2_with fail;refine(jf m1 e1 _).mono ?_;rintro e w3 ⟨rfl,hb⟩;unfold aX;have Z3:=Ad (Z2.out.below hb);have HB3:=Ad (ai HB2.out hb);clear hb d0 d1 g0 g1;obtain⟨f0,f1,f2,f3,f4⟩:=Z3.out.f5;obtain⟨p0,p1,p2,p3,p4⟩:=Z3.out.c5;have hzz:=Z3.out.lt;go_wp2_with fail;refine bodyPost_ret (v:=.tuple #[aX 4 m1 e1 {data:=#[]},.int .i64 1]) (by simp[results,aX,Tryz.results273,go_sem, *]) rfl ?_;exact⟨rfl,cz HB3.out (by simp;try omega) _ _ _ _ _⟩
  ·have hX2:fe n x=false:=by rw[HX.out.out];simpa using hq
   have HX2:=Ad hX2;clear hX2;rw[if_neg hq];clear hq HX;go_enter Tryz.func273,Tryz.ntmps273;go_wp2_with fail;refine(dc n x _ HK.out hb0 hb1 hb2 hb3).mono ?_;rintro e w1 ⟨rfl,hb⟩;rw[HR.out];unfold br;have Z1:=Ad (Z0.out.below hb);have D1:=Ad (D0.out.below hb);have HB:=Ad (ai B0.out hb);clear hb;obtain⟨d0,d1⟩:=D1.out.c2;have hd:=D1.out.lt;go_wp2_with fail;refine(jM n x _ HK.out).mono ?_;rintro e w2 ⟨rfl,hb⟩;rw[HX2.out];have Z2:=Ad ((Z1.out.alloc (.cells #[.int .i64 m1,.int .i64 e1] 104)).below hb);have F2:=Ad ((aj.new w1 104 #[.int .i64 m1,.int .i64 e1]).below hb);have HB2:=Ad (ai (ab HB.out _) hb);clear hb;obtain⟨g0,g1⟩:=F2.out.c2;have hg:=F2.out.lt;go_wp2_with fail;refine(jf m1 e1 _).mono ?_;rintro e w3 ⟨rfl,hb⟩;unfold aX;have Z3:=Ad (Z2.out.below hb);have HB3:=Ad (ai HB2.out hb);clear hb d0 d1 g0 g1;obtain⟨f0,f1,f2,f3,f4⟩:=Z3.out.f5;obtain⟨p0,p1,p2,p3,p4⟩:=Z3.out.c5;have hzz:=Z3.out.lt;go_wp2_with fail;refine bodyPost_ret (v:=.tuple #[aX 4 m1 e1 {data:=#[]},.int .i64 2]) (by simp[results,aX,Tryz.results273,go_sem, *]) rfl ?_;exact⟨rfl,cz HB3.out (by simp;try omega) _ _ _ _ _⟩
def j2(w:World)(v:Value)(e:Ending)(w':World):Prop:=e=.returned v∧w=w'
theorem aP(x a b:Int)(w:World):Calls Tryz.prog 141 #[.int .i64 x,.int .i64 a,.int .i64 b] w (j2 w (.bool (decide (a≤x∧x≤b)))):=by
 obtain⟨r,hr⟩: ∃r,r=decide (a≤x∧x≤b):=⟨_,rfl⟩;rw[←hr];have R:=Ad hr;clear hr;by_cases h1:a≤x;·by_cases h2:x≤b;all_goals go_enter Tryz.func141,Tryz.ntmps141;go_wp2_with fail;go_ret;exact⟨by rw[R.out];simp[h1,h2],rfl⟩
 ·go_enter Tryz.func141,Tryz.ntmps141;go_wp2_with fail;go_ret;exact⟨by rw[R.out,decide_eq_false (by omega)];rfl,rfl⟩
theorem eF(n:Int)(w:World):Calls Tryz.prog 281 #[.int .i64 n] w (j2 w (.bool (fi n))):=by
 obtain⟨r,hr⟩: ∃r,r=fi n:=⟨_,rfl⟩;rw[←hr];unfold fi at hr;have R:=Ad hr;clear hr;go_enter Tryz.func281,Tryz.ntmps281;go_wp2_with fail;refine(aP _ _ _ _).mono ?_;rintro e w1 ⟨rfl,rfl⟩;cases h:decide (0≤n∧n≤1114111) with|false=>have H:=Ad h;clear h;go_wp2_with fail;go_ret;exact⟨by rw[R.out,H.out];rfl,rfl⟩|true=>have H:=Ad h;clear h;go_wp2_with fail;refine(aP _ _ _ _).mono ?_;rintro e w1 ⟨rfl,rfl⟩;(have hrr:r= !decide (55296≤n∧n≤57343):=by rw[R.out,H.out];rfl);generalize decide (55296≤n∧n≤57343)=q at hrr;have HR:=Ad hrr;clear hrr;go_wp2_with fail;go_ret;exact⟨by rw[HR.out];rfl,rfl⟩
theorem cD(n:Int)(w:World):Calls Tryz.prog 246 #[.int .i64 n] w (j2 w (.int .i64 (eO n))):=by
 obtain⟨r,hr⟩: ∃r,r=eO n:=⟨_,rfl⟩;rw[←hr];unfold eO at hr;cases h:fi n with|false=>(have hr0:r=0:=by rw[hr,h];rfl);subst hr0;have H:=Ad h;clear h hr;go_enter Tryz.func246,Tryz.ntmps246;go_wp2_with fail;refine(eF n _).mono ?_;rintro e w1 ⟨rfl,rfl⟩;rw[H.out];go_wp2_with fail;go_ret;exact⟨rfl,rfl⟩|true=>rw[h,if_pos rfl] at hr;have H:=Ad h;clear h;by_cases c1:n<128;(·rw[if_pos c1] at hr;subst hr;go_enter Tryz.func246,Tryz.ntmps246;go_wp2_with fail;refine(eF n _).mono ?_;rintro e w1 ⟨rfl,rfl⟩;rw[H.out];go_wp2_with fail;go_ret;exact⟨rfl,rfl⟩);·rw[if_neg c1] at hr;by_cases c2:n<2048;(·rw[if_pos c2] at hr;subst hr;go_enter Tryz.func246,Tryz.ntmps246;go_wp2_with fail;refine(eF n _).mono ?_;rintro e w1 ⟨rfl,rfl⟩;rw[H.out];go_wp2_with fail;go_ret;exact⟨rfl,rfl⟩);·rw[if_neg c2] at hr;by_cases c3:n<65536;all_goals(first|rw[if_pos c3] at hr|rw[if_neg c3] at hr);subst hr;go_enter Tryz.func246,Tryz.ntmps246;go_wp2_with fail;refine(eF n _).mono ?_;rintro e w1 ⟨rfl,rfl⟩;rw[H.out];go_wp2_with fail;go_ret;exact⟨rfl,rfl⟩
def tA(k:Nat):Option (Nat×Nat)→Value|none=>.tuple #[.int .i64 0,.int .i64 0,.bool false]|some (n,w)=>.tuple #[.int .i64 n,.int .i64 ((k+w:Nat):Int),.bool true]
theorem ld(l:List UInt8)(k i:Nat)(h:k+i<l.length):bO (l.drop k) i=(l[k+i]).toNat:=by
 unfold bO;rw[List.getD_eq_getElem?_getD,List.getElem?_drop,List.getElem?_eq_getElem h];rfl
theorem j5{l:List UInt8}{W n0 j:Nat}(h:fm (bO l 0)=some (W,n0))(hj:j<W)(hc: ∀i,1≤i→i≤j→da (bO l i)): ∃m:Nat,dS l n0 j=m∧m<2097152:=by
 obtain⟨m,h1,h2⟩:=xD (n0:=n0) hc;refine⟨m,h1,Nat.lt_of_lt_of_le h2 ?_⟩;have h0:=fS l 0;have hj4:j=0∨j=1∨j=2∨j=3:=by rcases ep h h0 with⟨h1,h2,h3⟩|⟨h1,h2,h3⟩|⟨h1,h2,h3⟩|⟨h1,h2,h3⟩<;>omega
 rcases ep h h0 with⟨rfl,h2,h3⟩|⟨rfl,h2,h3⟩|⟨rfl,h2,h3⟩|⟨rfl,h2,h3⟩<;>rcases hj4 with rfl|rfl|rfl|rfl<;>omega
theorem vY{x:Nat}(h:x<256):(fm x=some (1,x)∧(x:Int)<128)∨(fm x=some (2,x-192)∧ ¬(x:Int)<128∧decide ((192:Int)≤x∧(x:Int)≤223)=true)∨(fm x=some (3,x-224)∧ ¬(x:Int)<128∧decide ((192:Int)≤x∧(x:Int)≤223)=false∧decide ((224:Int)≤x∧(x:Int)≤239)=true)∨(fm x=some (4,x-240)∧ ¬(x:Int)<128∧decide ((192:Int)≤x∧(x:Int)≤223)=false∧decide ((224:Int)≤x∧(x:Int)≤239)=false∧decide ((240:Int)≤x∧(x:Int)≤247)=true)∨(fm x=none∧ ¬(x:Int)<128∧decide ((192:Int)≤x∧(x:Int)≤223)=false∧decide ((224:Int)≤x∧(x:Int)≤239)=false∧decide ((240:Int)≤x∧(x:Int)≤247)=false):=by
 unfold fm;simp only[decide_eq_true_eq,decide_eq_false_iff_not];by_cases h1:x<128;·left;rw[if_pos h1];exact⟨rfl,by omega⟩
 ·right;rw[if_neg h1];by_cases h2:192≤x∧x≤223;·left;rw[if_pos h2];exact⟨rfl,by omega,by omega⟩
  ·right;rw[if_neg h2];by_cases h3:224≤x∧x≤239;·left;rw[if_pos h3];exact⟨rfl,by omega,by omega,by omega⟩
   ·right;rw[if_neg h3];by_cases h4:240≤x∧x≤247;·left;rw[if_pos h4];exact⟨rfl,by omega,by omega,by omega,by omega⟩
    ·right;rw[if_neg h4];exact⟨rfl,by omega,by omega,by omega,by omega⟩
theorem iH(l:List UInt8)(k:Nat)(A:Option Addr)(c:Nat)(w:World)(hn:l.length≤1099511627776)(hk:k<l.length)(hs:SA w l A c):Calls Tryz.prog 201 #[.slice A l.length c,.int .i64 (k:Int)] w (j2 w (tA k (gB (l.drop k)))):=by
 obtain⟨b,off,rfl,hb,hc⟩:=hs.byte_at hk;have E:=Ad hs;clear hs;obtain⟨x,hx⟩: ∃x,x=(l[k]).toNat:=⟨_,rfl⟩;have hx0:x=bO (l.drop k) 0:=by rw[hx];exact(ld l k 0 (by omega)).symm
 have hxl:x<256:=by rw[hx];exact(l[k]).toNat_lt
 rw[←hx] at hc;clear hx;rcases vY hxl with⟨hh,q0⟩|⟨hh,q0,q1⟩|⟨hh,q0,q1,q2⟩|⟨hh,q0,q1,q2,q3⟩|⟨hh,q0,q1,q2,q3⟩
 ·have hr:gB (l.drop k)=some (x,1):=by rw[hx0];exact xd (by rw[List.length_drop];omega) (by omega)
  rw[hr];have hs1: ¬((l.length:Int)-k<1):=by omega
  have HH:=Ad (Ac hx0 hh);clear hx0 hh hr;have hwid:eO (x:Int)=1:=by rcases fs (x:Int) with h|h|h|h|h;(·have:=h.2;rw[Bool.eq_false_iff] at this;exact absurd ((et _).2 (by omega)) this);all_goals omega
  have HW2:=Ad hwid;clear hwid;go_enter Tryz.func201,Tryz.ntmps201;go_wp2_with fail;go_loopg[9,10] 1 (fun gk nn i wr=>nn=.int .i64 (x:Int)∧i=.int .i64 1∧wr=w);case atStart=>exact⟨rfl,rfl,rfl⟩
  case round=>obtain⟨rfl,rfl,rfl⟩:=hrel;go_wp2_with(go_at_call 246;refine(cD _ _).mono ?_;rintro e w1 ⟨rfl,rfl⟩;rw[HW2.out]);refine bodyPost_ret (v:=.tuple #[.int .i64 (x:Int),.int .i64 (k+1),.bool true]) (by simp[results,Tryz.results201,go_sem, *]<;>rfl) rfl ?_;exact⟨by unfold tA;go_num,rfl⟩
 ·obtain⟨n0,hn0⟩: ∃n0,n0=x-192:=⟨_,rfl⟩;have hx1:192≤x:=by simp only[decide_eq_true_eq] at q1;omega
  rw[←hn0] at hh;have Q1:=Ad q1;clear q1;have hW:Hid (fm (bO (l.drop k) 0)=some (2,n0)):=by show _=_;rw[←hx0,hh]
  have HN0:=Ad hn0;clear hn0 hh hx0;have hnw:Hid (IntKind.i64.wrap ((x:Int)-192)=(n0:Int)):=by show _=_;rw[IntKind.wrap_i64];have:=HN0.out;omega
  by_cases hs:l.length-k<2
  ·have hr:gB (l.drop k)=none:=kb (by rw[List.length_drop];omega) hW.out (by rw[List.length_drop];omega);rw[hr];have hs1:(l.length:Int)-k<2:=by omega
   clear hr hs;go_enter Tryz.func201,Tryz.ntmps201;go_wp2_with(go_at_call 141;refine(aP _ _ _ _).mono ?_;rintro e w1 ⟨rfl,rfl⟩;first|rw[Q1.out]);all_goals first|(refine bodyPost_ret (v:=.tuple #[.int .i64 0,.int .i64 0,.bool false]) (by simp[results,Tryz.results201,go_sem, *]<;>rfl) rfl ?_;exact⟨rfl,rfl⟩)|(exfalso;omega)
  ·have hs1: ¬((l.length:Int)-k<2):=by omega
   have hs2:k+2≤l.length:=by omega
   obtain⟨r,hr⟩: ∃r,r=gB (l.drop k):=⟨_,rfl⟩;rw[←hr];have R:=Ad hr;clear hr hs;go_enter Tryz.func201,Tryz.ntmps201;go_wp2_with(go_at_call 141;refine(aP _ _ _ _).mono ?_;rintro e w1 ⟨rfl,rfl⟩;first|rw[Q1.out]);go_loopg[9,10] 1 (fun gk nn i wr=> ∃(j m:Nat),1≤j∧j≤2∧nn=.int .i64 (m:Int)∧i=.int .i64 (j:Int)∧gk=2-j∧m<2097152∧Hid (dS (l.drop k) n0 (j-1)=m)∧Hid (∀i,1≤i→i<j→da (bO (l.drop k) i))∧wr=w);case atStart=>exact⟨1,n0,by omega,by omega,(by have h1:=HN0.out;rw[show(x:Int)-192=(n0:Int) by omega]),rfl,by omega,by have:=HN0.out;omega,rfl,fun i h1 h2=>by omega,rfl⟩
   case round=>
    obtain⟨j,m,hj1,hjW,rfl,rfl,rfl,hm,hacc,hcont,rfl⟩:=hrel;by_cases hlt:j<2
    ·have hkj:k+j<l.length:=by omega
     obtain⟨b2,off2,hA2,hb2,hc2⟩:=E.out.byte_at hkj;injection hA2 with hA2;injection hA2 with e1 e2;subst e1 e2;have hjj:((j:Int)<2):=by omega
     obtain⟨y,hy⟩: ∃y,y=(l[k+j]).toNat:=⟨_,rfl⟩;have hy2:bO (l.drop k) j=y:=by rw[hy];exact ld l k j hkj
     have hyl:y<256:=by rw[hy];exact(l[k+j]).toNat_lt
     rw[←hy] at hc2;have HY:=Ad hy2;clear hy hy2;by_cases hcb:da y
     ·have hd:decide ((128:Int)≤y∧(y:Int)≤191)=true:=by unfold da at hcb;simp;omega
      have hc3: ∀i,1≤i→i<j+1→da (bO (l.drop k) i):=fun i h1 h2=>by rcases Nat.lt_or_ge i j with h|h;(·exact hcont.out i h1 h);·rw[show i=j by omega,HY.out];exact hcb
      obtain⟨m',hm1,hm2⟩:=j5 (j:=j) hW.out hlt (fun i h1 h2=>hc3 i h1 (by omega));have hm3:dS (l.drop k) n0 j=64*(m:Int)+y-128:=by obtain⟨q,rfl⟩: ∃q,j=q+1:=⟨j-1,by omega⟩;rw[dS];have:=hacc.out;simp only[Nat.add_sub_cancel] at this;rw[this,HY.out]
      have hm4:(m':Int)=64*(m:Int)+y-128:=by rw[←hm1,hm3]
      have H3:=Ad (Ac hm1 hc3);clear hm1 hc3 hm3;have D:=Ad hd;clear hd hcb;have H4:=Ad hm4;clear hm4;go_wp2_with(go_at_call 141;refine(aP _ _ _ _).mono ?_;rintro e w1 ⟨rfl,rfl⟩;rw[D.out]);go_roundg(2-(j+1));case measure=>omega
      case rel=>exact⟨j+1,m',by omega,by omega,(by rw[H4.out]),by go_num,rfl,hm2,H3.out.1,H3.out.2,rfl⟩
     ·have hd:decide ((128:Int)≤y∧(y:Int)≤191)=false:=by unfold da at hcb;simp;omega
      have hr0:r=none:=by rw[R.out];exact og (j:=j) (by rw[List.length_drop];omega) hW.out hj1 hlt (by rw[HY.out];exact hcb)
      subst hr0;have D:=Ad hd;clear hd hcb;go_wp2_with(go_at_call 141;refine(aP _ _ _ _).mono ?_;rintro e w1 ⟨rfl,rfl⟩;rw[D.out]);refine bodyPost_ret (v:=.tuple #[.int .i64 0,.int .i64 0,.bool false]) (by simp[results,Tryz.results201,go_sem, *]<;>rfl) rfl ?_;exact⟨rfl,rfl⟩
    ·have e:j=2:=by omega
     subst e;have hfull:=lM (by rw[List.length_drop];omega) hW.out (by rw[List.length_drop];omega) hcont.out;rw[hacc.out,Int.toNat_natCast] at hfull;by_cases hw:eO (m:Int)=2
     ·have hr0:r=some (m,2):=by rw[R.out];exact hfull.1 hw
      subst hr0;have HW2:=Ad hw;clear hfull hw;go_wp2_with(go_at_call 246;refine(cD _ _).mono ?_;rintro e w1 ⟨rfl,rfl⟩;rw[HW2.out]);refine bodyPost_ret (v:=.tuple #[.int .i64 (m:Int),.int .i64 (k+2),.bool true]) (by simp[results,Tryz.results201,go_sem, *]<;>rfl) rfl ?_;exact⟨by unfold tA;go_num,rfl⟩
     ·have hr0:r=none:=by rw[R.out];exact hfull.2 hw
      subst hr0;obtain⟨q,hq⟩: ∃q,q=eO (m:Int):=⟨_,rfl⟩;have hq2:((q:Int) != 2)=true:=by simp;omega
      have HW2:=Ad hq.symm;clear hfull hw hq;go_wp2_with(go_at_call 246;refine(cD _ _).mono ?_;rintro e w1 ⟨rfl,rfl⟩;rw[HW2.out]);refine bodyPost_ret (v:=.tuple #[.int .i64 0,.int .i64 0,.bool false]) (by simp[results,Tryz.results201,go_sem, *]<;>rfl) rfl ?_;exact⟨rfl,rfl⟩
 ·obtain⟨n0,hn0⟩: ∃n0,n0=x-224:=⟨_,rfl⟩;have hx1:224≤x:=by simp only[decide_eq_true_eq] at q2;omega
  rw[←hn0] at hh;have Q1:=Ad q1;clear q1;have Q2:=Ad q2;clear q2;have hW:Hid (fm (bO (l.drop k) 0)=some (3,n0)):=by show _=_;rw[←hx0,hh]
  have HN0:=Ad hn0;clear hn0 hh hx0;have hnw:Hid (IntKind.i64.wrap ((x:Int)-224)=(n0:Int)):=by show _=_;rw[IntKind.wrap_i64];have:=HN0.out;omega
  by_cases hs:l.length-k<3
  ·have hr:gB (l.drop k)=none:=kb (by rw[List.length_drop];omega) hW.out (by rw[List.length_drop];omega);rw[hr];have hs1:(l.length:Int)-k<3:=by omega
   clear hr hs;go_enter Tryz.func201,Tryz.ntmps201;go_wp2_with(go_at_call 141;refine(aP _ _ _ _).mono ?_;rintro e w1 ⟨rfl,rfl⟩;first|rw[Q1.out]|rw[Q2.out]);all_goals first|(refine bodyPost_ret (v:=.tuple #[.int .i64 0,.int .i64 0,.bool false]) (by simp[results,Tryz.results201,go_sem, *]<;>rfl) rfl ?_;exact⟨rfl,rfl⟩)|(exfalso;omega)
  ·have hs1: ¬((l.length:Int)-k<3):=by omega
   have hs2:k+3≤l.length:=by omega
   obtain⟨r,hr⟩: ∃r,r=gB (l.drop k):=⟨_,rfl⟩;rw[←hr];have R:=Ad hr;clear hr hs;go_enter Tryz.func201,Tryz.ntmps201;go_wp2_with(go_at_call 141;refine(aP _ _ _ _).mono ?_;rintro e w1 ⟨rfl,rfl⟩;first|rw[Q1.out]|rw[Q2.out]);go_loopg[9,10] 2 (fun gk nn i wr=> ∃(j m:Nat),1≤j∧j≤3∧nn=.int .i64 (m:Int)∧i=.int .i64 (j:Int)∧gk=3-j∧m<2097152∧Hid (dS (l.drop k) n0 (j-1)=m)∧Hid (∀i,1≤i→i<j→da (bO (l.drop k) i))∧wr=w);case atStart=>exact⟨1,n0,by omega,by omega,(by have h1:=HN0.out;rw[show(x:Int)-224=(n0:Int) by omega]),rfl,by omega,by have:=HN0.out;omega,rfl,fun i h1 h2=>by omega,rfl⟩
   case round=>
    obtain⟨j,m,hj1,hjW,rfl,rfl,rfl,hm,hacc,hcont,rfl⟩:=hrel;by_cases hlt:j<3
    ·have hkj:k+j<l.length:=by omega
     obtain⟨b2,off2,hA2,hb2,hc2⟩:=E.out.byte_at hkj;injection hA2 with hA2;injection hA2 with e1 e2;subst e1 e2;have hjj:((j:Int)<3):=by omega
     obtain⟨y,hy⟩: ∃y,y=(l[k+j]).toNat:=⟨_,rfl⟩;have hy2:bO (l.drop k) j=y:=by rw[hy];exact ld l k j hkj
     have hyl:y<256:=by rw[hy];exact(l[k+j]).toNat_lt
     rw[←hy] at hc2;have HY:=Ad hy2;clear hy hy2;by_cases hcb:da y
     ·have hd:decide ((128:Int)≤y∧(y:Int)≤191)=true:=by unfold da at hcb;simp;omega
      have hc3: ∀i,1≤i→i<j+1→da (bO (l.drop k) i):=fun i h1 h2=>by rcases Nat.lt_or_ge i j with h|h;(·exact hcont.out i h1 h);·rw[show i=j by omega,HY.out];exact hcb
      obtain⟨m',hm1,hm2⟩:=j5 (j:=j) hW.out hlt (fun i h1 h2=>hc3 i h1 (by omega));have hm3:dS (l.drop k) n0 j=64*(m:Int)+y-128:=by obtain⟨q,rfl⟩: ∃q,j=q+1:=⟨j-1,by omega⟩;rw[dS];have:=hacc.out;simp only[Nat.add_sub_cancel] at this;rw[this,HY.out]
      have hm4:(m':Int)=64*(m:Int)+y-128:=by rw[←hm1,hm3]
      have H3:=Ad (Ac hm1 hc3);clear hm1 hc3 hm3;have D:=Ad hd;clear hd hcb;have H4:=Ad hm4;clear hm4;go_wp2_with(go_at_call 141;refine(aP _ _ _ _).mono ?_;rintro e w1 ⟨rfl,rfl⟩;rw[D.out]);go_roundg(3-(j+1));case measure=>omega
      case rel=>exact⟨j+1,m',by omega,by omega,(by rw[H4.out]),by go_num,rfl,hm2,H3.out.1,H3.out.2,rfl⟩
     ·have hd:decide ((128:Int)≤y∧(y:Int)≤191)=false:=by unfold da at hcb;simp;omega
      have hr0:r=none:=by rw[R.out];exact og (j:=j) (by rw[List.length_drop];omega) hW.out hj1 hlt (by rw[HY.out];exact hcb)
      subst hr0;have D:=Ad hd;clear hd hcb;go_wp2_with(go_at_call 141;refine(aP _ _ _ _).mono ?_;rintro e w1 ⟨rfl,rfl⟩;rw[D.out]);refine bodyPost_ret (v:=.tuple #[.int .i64 0,.int .i64 0,.bool false]) (by simp[results,Tryz.results201,go_sem, *]<;>rfl) rfl ?_;exact⟨rfl,rfl⟩
    ·have e:j=3:=by omega
     subst e;have hfull:=lM (by rw[List.length_drop];omega) hW.out (by rw[List.length_drop];omega) hcont.out;rw[hacc.out,Int.toNat_natCast] at hfull;by_cases hw:eO (m:Int)=3
     ·have hr0:r=some (m,3):=by rw[R.out];exact hfull.1 hw
      subst hr0;have HW2:=Ad hw;clear hfull hw;go_wp2_with(go_at_call 246;refine(cD _ _).mono ?_;rintro e w1 ⟨rfl,rfl⟩;rw[HW2.out]);refine bodyPost_ret (v:=.tuple #[.int .i64 (m:Int),.int .i64 (k+3),.bool true]) (by simp[results,Tryz.results201,go_sem, *]<;>rfl) rfl ?_;exact⟨by unfold tA;go_num,rfl⟩
     ·have hr0:r=none:=by rw[R.out];exact hfull.2 hw
      subst hr0;obtain⟨q,hq⟩: ∃q,q=eO (m:Int):=⟨_,rfl⟩;have hq2:((q:Int) != 3)=true:=by simp;omega
      have HW2:=Ad hq.symm;clear hfull hw hq;go_wp2_with(go_at_call 246;refine(cD _ _).mono ?_;rintro e w1 ⟨rfl,rfl⟩;rw[HW2.out]);refine bodyPost_ret (v:=.tuple #[.int .i64 0,.int .i64 0,.bool false]) (by simp[results,Tryz.results201,go_sem, *]<;>rfl) rfl ?_;exact⟨rfl,rfl⟩
 ·obtain⟨n0,hn0⟩: ∃n0,n0=x-240:=⟨_,rfl⟩;have hx1:240≤x:=by simp only[decide_eq_true_eq] at q3;omega
  rw[←hn0] at hh;have Q1:=Ad q1;clear q1;have Q2:=Ad q2;clear q2;have Q3:=Ad q3;clear q3;have hW:Hid (fm (bO (l.drop k) 0)=some (4,n0)):=by show _=_;rw[←hx0,hh]
  have HN0:=Ad hn0;clear hn0 hh hx0;have hnw:Hid (IntKind.i64.wrap ((x:Int)-240)=(n0:Int)):=by show _=_;rw[IntKind.wrap_i64];have:=HN0.out;omega
  by_cases hs:l.length-k<4
  ·have hr:gB (l.drop k)=none:=kb (by rw[List.length_drop];omega) hW.out (by rw[List.length_drop];omega);rw[hr];have hs1:(l.length:Int)-k<4:=by omega
   clear hr hs;go_enter Tryz.func201,Tryz.ntmps201;go_wp2_with(go_at_call 141;refine(aP _ _ _ _).mono ?_;rintro e w1 ⟨rfl,rfl⟩;first|rw[Q1.out]|rw[Q2.out]|rw[Q3.out]);all_goals first|(refine bodyPost_ret (v:=.tuple #[.int .i64 0,.int .i64 0,.bool false]) (by simp[results,Tryz.results201,go_sem, *]<;>rfl) rfl ?_;exact⟨rfl,rfl⟩)|(exfalso;omega)
  ·have hs1: ¬((l.length:Int)-k<4):=by omega
   have hs2:k+4≤l.length:=by omega
   obtain⟨r,hr⟩: ∃r,r=gB (l.drop k):=⟨_,rfl⟩;rw[←hr];have R:=Ad hr;clear hr hs;go_enter Tryz.func201,Tryz.ntmps201;go_wp2_with(go_at_call 141;refine(aP _ _ _ _).mono ?_;rintro e w1 ⟨rfl,rfl⟩;first|rw[Q1.out]|rw[Q2.out]|rw[Q3.out]);go_loopg[9,10] 3 (fun gk nn i wr=> ∃(j m:Nat),1≤j∧j≤4∧nn=.int .i64 (m:Int)∧i=.int .i64 (j:Int)∧gk=4-j∧m<2097152∧Hid (dS (l.drop k) n0 (j-1)=m)∧Hid (∀i,1≤i→i<j→da (bO (l.drop k) i))∧wr=w);case atStart=>exact⟨1,n0,by omega,by omega,(by have h1:=HN0.out;rw[show(x:Int)-240=(n0:Int) by omega]),rfl,by omega,by have:=HN0.out;omega,rfl,fun i h1 h2=>by omega,rfl⟩
   case round=>
    obtain⟨j,m,hj1,hjW,rfl,rfl,rfl,hm,hacc,hcont,rfl⟩:=hrel;by_cases hlt:j<4
    ·have hkj:k+j<l.length:=by omega
     obtain⟨b2,off2,hA2,hb2,hc2⟩:=E.out.byte_at hkj;injection hA2 with hA2;injection hA2 with e1 e2;subst e1 e2;have hjj:((j:Int)<4):=by omega
     obtain⟨y,hy⟩: ∃y,y=(l[k+j]).toNat:=⟨_,rfl⟩;have hy2:bO (l.drop k) j=y:=by rw[hy];exact ld l k j hkj
     have hyl:y<256:=by rw[hy];exact(l[k+j]).toNat_lt
     rw[←hy] at hc2;have HY:=Ad hy2;clear hy hy2;by_cases hcb:da y
     ·have hd:decide ((128:Int)≤y∧(y:Int)≤191)=true:=by unfold da at hcb;simp;omega
      have hc3: ∀i,1≤i→i<j+1→da (bO (l.drop k) i):=fun i h1 h2=>by rcases Nat.lt_or_ge i j with h|h;(·exact hcont.out i h1 h);·rw[show i=j by omega,HY.out];exact hcb
      obtain⟨m',hm1,hm2⟩:=j5 (j:=j) hW.out hlt (fun i h1 h2=>hc3 i h1 (by omega));have hm3:dS (l.drop k) n0 j=64*(m:Int)+y-128:=by obtain⟨q,rfl⟩: ∃q,j=q+1:=⟨j-1,by omega⟩;rw[dS];have:=hacc.out;simp only[Nat.add_sub_cancel] at this;rw[this,HY.out]
      have hm4:(m':Int)=64*(m:Int)+y-128:=by rw[←hm1,hm3]
      have H3:=Ad (Ac hm1 hc3);clear hm1 hc3 hm3;have D:=Ad hd;clear hd hcb;have H4:=Ad hm4;clear hm4;go_wp2_with(go_at_call 141;refine(aP _ _ _ _).mono ?_;rintro e w1 ⟨rfl,rfl⟩;rw[D.out]);go_roundg(4-(j+1));case measure=>omega
      case rel=>exact⟨j+1,m',by omega,by omega,(by rw[H4.out]),by go_num,rfl,hm2,H3.out.1,H3.out.2,rfl⟩
     ·have hd:decide ((128:Int)≤y∧(y:Int)≤191)=false:=by unfold da at hcb;simp;omega
      have hr0:r=none:=by rw[R.out];exact og (j:=j) (by rw[List.length_drop];omega) hW.out hj1 hlt (by rw[HY.out];exact hcb)
      subst hr0;have D:=Ad hd;clear hd hcb;go_wp2_with(go_at_call 141;refine(aP _ _ _ _).mono ?_;rintro e w1 ⟨rfl,rfl⟩;rw[D.out]);refine bodyPost_ret (v:=.tuple #[.int .i64 0,.int .i64 0,.bool false]) (by simp[results,Tryz.results201,go_sem, *]<;>rfl) rfl ?_;exact⟨rfl,rfl⟩
    ·have e:j=4:=by omega
     subst e;have hfull:=lM (by rw[List.length_drop];omega) hW.out (by rw[List.length_drop];omega) hcont.out;rw[hacc.out,Int.toNat_natCast] at hfull;by_cases hw:eO (m:Int)=4
     ·have hr0:r=some (m,4):=by rw[R.out];exact hfull.1 hw
      subst hr0;have HW2:=Ad hw;clear hfull hw;go_wp2_with(go_at_call 246;refine(cD _ _).mono ?_;rintro e w1 ⟨rfl,rfl⟩;rw[HW2.out]);refine bodyPost_ret (v:=.tuple #[.int .i64 (m:Int),.int .i64 (k+4),.bool true]) (by simp[results,Tryz.results201,go_sem, *]<;>rfl) rfl ?_;exact⟨by unfold tA;go_num,rfl⟩
     ·have hr0:r=none:=by rw[R.out];exact hfull.2 hw
      subst hr0;obtain⟨q,hq⟩: ∃q,q=eO (m:Int):=⟨_,rfl⟩;have hq2:((q:Int) != 4)=true:=by simp;omega
      have HW2:=Ad hq.symm;clear hfull hw hq;go_wp2_with(go_at_call 246;refine(cD _ _).mono ?_;rintro e w1 ⟨rfl,rfl⟩;rw[HW2.out]);refine bodyPost_ret (v:=.tuple #[.int .i64 0,.int .i64 0,.bool false]) (by simp[results,Tryz.results201,go_sem, *]<;>rfl) rfl ?_;exact⟨rfl,rfl⟩
 ·have hr:gB (l.drop k)=none:=nM (by rw[List.length_drop];omega) (by rw[←hx0];exact hh);rw[hr];have HH:=Ad (Ac hx0 hh);clear hx0 hh hr;have Q1:=Ad q1;have Q2:=Ad q2;have Q3:=Ad q3;clear q1 q2 q3;go_enter Tryz.func201,Tryz.ntmps201;go_wp2_with(go_at_call 141;refine(aP _ _ _ _).mono ?_;rintro e w1 ⟨rfl,rfl⟩;first|rw[Q1.out]|rw[Q2.out]|rw[Q3.out]);refine bodyPost_ret (v:=.tuple #[.int .i64 0,.int .i64 0,.bool false]) (by simp[results,Tryz.results201,go_sem, *]<;>rfl) rfl ?_;exact⟨rfl,rfl⟩
def qN(k n x:Int)(s:ByteArray):Prop:=(k=3→aZ n x=true)∧(k=6→aZ n x=true)∧(k=4→bg n x=true)∧s.size≤1048576
def sV(f k:Int):Prop:=(k=3∧f=4)∨(k=6∧(f=2∨f=3∨f=4))
def tQ(f k:Int):Prop:=(k=4→f≠1)∧(k=3→f≠4)∧(k=5∨k=8→f=2∨f=3)∧(k=6→f=1)
theorem nZ{f k:Int}(h:sV f k)(n x:Int)(s:ByteArray):cB f ⟨k,n,x,s,[]⟩=aD n x:=by
 unfold cB;rcases h with⟨rfl,rfl⟩|⟨rfl,rfl|rfl|rfl⟩<;>simp
theorem oD{f k:Int}(h:tQ f k)(hf:f=1∨f=2∨f=3∨f=4)(n x:Int)(s:ByteArray):cB f ⟨k,n,x,s,[]⟩=(⟨k,n,x,s,[]⟩,0):=by
 obtain⟨h4,h3,h58,h6⟩:=h;unfold cB aV;simp only[decide_eq_true_eq];rw[if_neg (fun e=>h3 e.1 e.2),if_neg (fun e=>by have:=h6 e.1;omega),if_neg (fun e=>h4 e.1 e.2),if_neg (fun e=>by have:=h58 (.inl e.1);omega),if_neg (fun e=>by have:=h58 (.inr e.1);omega)]
theorem pR{f k:Int}(hf:f=1∨f=2∨f=3∨f=4):tQ f k∨sV f k∨(k=4∧f=1)∨(k=5∧(f=1∨f=4))∨(k=8∧(f=1∨f=4)):=by
 unfold tQ sV;omega
end Go.Proofs.YtodpdjehjllhdaaGreatDoor
