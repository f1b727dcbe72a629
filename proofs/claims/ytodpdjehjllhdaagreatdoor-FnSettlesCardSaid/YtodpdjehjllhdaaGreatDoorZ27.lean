/- Part of a proof: contracts and plain laws. -/
import Derived.Test.YtodpdjehjllhdaaGreatDoorZ26
import Derived.Laws.IdiomCopy
set_option linter.unusedVariables false
set_option maxRecDepth 100000
set_option maxHeartbeats 20000000
namespace Go.Proofs.YtodpdjehjllhdaaGreatDoor
open Go.RowKit
theorem lQ(l:List ag)(A:Option Addr)(c:Nat)(w:World)(hn:bV l≤1048576)(hl:SA w l A c):Calls Tryz.prog 155 #[.slice A l.length c] w fun e w'=> ∃g' c',e=.returned (.slice (some ⟨g',0,none⟩) l.length c')∧aC w' w.heap.size 62 (.slice (some ⟨g',0,none⟩) l.length c') l∧Below w.heap.size w w':=by
 have hn1:l.length≤1048576:=by unfold bV at hn;omega
 have hp:Hid (∀k(h:k<l.length),l[k].p.length≤1048576):=fun k h=>by have:=dM dt l h;unfold bV dt at*;omega
 have E:=xQ hl;clear hl hn;go_enter Tryz.func155,Tryz.ntmps155;go_wp2_with fail;go_loopg[3,9] l.length (fun gk rv i wr=> ∃k:Nat,k≤l.length∧i=.int .i64 k∧gk=l.length-k∧aC wr w.heap.size 62 rv (l.take k)∧(∃g,rv.ownBlock=some g)∧Below w.heap.size w wr);case atStart=>exact⟨0,by omega,rfl,by omega,aC.cX _ _ _ _ (by simp) (by omega),⟨_,rfl⟩,ab (af w) _⟩
 case round=>
  obtain⟨k,hk,rfl,rfl,hown,hgu,hbel⟩:=hrel;have HGU:=xQ hgu;clear hgu;by_cases hlt:k<l.length
  ·obtain⟨b,off,A1,c1,rfl,hb,hI,hs,k0,k1⟩:=(E.out.below hbel).vL hlt;have HS:=xQ (xP hI hs);clear hI hs;have HOW:=xQ hown;clear hown;have X0:=xQ (ah.new wr 62 #[.int .i64 l[k].kind,.slice A1 l[k].p.length c1]);have htk:(l.take k).length=k:=by rw[List.length_take];omega
   have htk1:(l.take (k+1)).length=k+1:=by rw[List.length_take];omega
   have hzw:w.heap.size≤wr.heap.size:=hbel.size;go_wp2_with fail;go_region_held3(fun u=>u.cell? ⟨wr.heap.size,0,none⟩=some (.int .i64 l[k].kind)∧u.cell? ⟨wr.heap.size,1,none⟩=some (.slice A1 l[k].p.length c1)) (go_keep) (first|(go_at_call 153;(refine(du l[k].p A1 c1 _ (by have:=hp.out k hlt;omega) ((HS.out.2.below (ab (af wr) _)).drew)).mono ?_;rintro e w3 ⟨A3,c3,rfl,hs3,hb3⟩;have HB3:=xQ (show Below wr.heap.size wr w3 from al (ab (af wr) _).drew hb3);have HX3:=xQ (X0.out.drew.below hb3);have HS3:=xQ (show SF wr.heap.size w3 l[k].p A3 c3 from hs3.sf.2.mono (by simp));obtain⟨x0,x1⟩:=HX3.out.c2;clear hs3 hb3))|((apply aN (s:=.tmp 13) (x:=.tmp 20) (t:=43) (v:=u3) (u:=.slice (some ⟨w3.heap.size,0,none⟩) 1 1);(try case hgd=>exact rfl);(try case ho=>exact rfl);(try case hs=>exact rfl);(try case hx=>exact rfl);(case hrun=>exact gw (P:=Tryz.prog) 43 43 w.heap.size 62 (.agg #[.int .i64 0,.slice none 0 0]) 32 Tryz.underlying43 bh rfl (by decide) u3 (l.take k) l[k] [.int .i64 l[k].kind,.slice A3 l[k].p.length c3] wr ⟨w3.heap.size,0,none⟩ 1 HOW.out (ab HB3.out _) ((RF.lR (x:=l[k]) HS.out.1 HS3.out).below (ab (af w3) _)) (aJ [_,_] rfl) (by rw[htk];omega) (by rw[htk];unfold maxLen;omega) hzw);rintro v5 w5 ⟨ho,hbl,hat,hg⟩;have HG5:=xQ (show ∃g,v5.ownBlock=some g from(by rcases hat with e|e;exact e▸HGU.out;exact⟨_,e⟩));rw[←List.take_succ_eq_append_getElem hlt] at ho;have HB5:=xQ (show Below w.heap.size w w5 from(hbel.trans ((ab HB3.out _).mono hzw)).trans hbl);have HX5:=xQ ((HX3.out.alloc (.cells #[.int .i64 l[k].kind,.slice A3 l[k].p.length c3] 62)).grown hg (fun e=>by have:=(HOW.out.ar _ e).2;omega));have HO5:=xQ ho;obtain⟨x0,x1⟩:=HX5.out.c2;clear ho hbl hg hat)));go_wp2_with fail;go_roundg(l.length-(k+1));case measure=>omega
   case rel=>exact⟨k+1,by omega,by go_num,rfl,HO5.out,HG5.out,HB5.out⟩
  ·have e:k=l.length:=by omega
   subst e;rw[List.take_length] at hown;obtain⟨Av,cv,ev,hAv⟩:=aB.td hown.cB;have hAv': ∃g,Av=some ⟨g,0,none⟩:=by rcases hAv with⟨h1,h2⟩|h;(·obtain⟨g,hg⟩:=HGU.out;rw[ev,h1] at hg;simp[Value.ownBlock] at hg);·exact h
   obtain⟨g',rfl⟩:=hAv';subst ev;clear hAv HGU;have HO:=xQ (xP hown hbel);clear hown hbel;go_wp2_with fail;go_ret;exact⟨g',cv,rfl,HO.out.1,HO.out.2⟩
theorem mq(l:List ag)(hl:l.length≤1048576)(base g c:Nat)(w:World)(h:bc base w g c l)(hcf: ∀(a:Array Value)(w:World),(callFunc 157 a).run Tryz.prog w=.ok (.enter 157 a) w):Calls Tryz.prog 156 #[.slice (some ⟨g,0,none⟩) l.length c,.func (.func 157) #[] #[]] w (fun e w'=>e=.returned (.tuple #[])∧bc base w' g c (a7 l)∧Kept [g] w w'):=by
 have HC:=xQ (fun w0 h0=>rW l hl base g c w0 h0 hcf);have HR:=xQ h;clear h;go_enter Tryz.func156,Tryz.ntmps156;go_wp2_with fail;refine(HC.out _ HR.out).mono ?_;rintro e1 w1 ⟨rfl,Z,⟨hz1,hz2⟩,hr,hk⟩;have hZ:=iX hz2 hz1;rw[hZ] at hr;have HW:=xQ (xP hr hk);clear hr hk hz1 hz2 hZ;go_wp2_with fail;refine bodyPost_end (v:=.tuple #[]) (by simp[results,Tryz.results156,go_sem]) rfl ?_;exact⟨rfl,HW.out.1,HW.out.2⟩
def xe{α:Type}[aG α](w:World)(l:List α)(e:Ending)(w':World):Prop:= ∃A c,e=.returned (.slice A l.length c)∧SB w.heap.size w' l A c∧Below w.heap.size w w'
theorem jo(l:List ag)(A:Option Addr)(c:Nat)(w:World)(hn:bV l≤1048576)(hl:SA w l A c)(hcf: ∀(a:Array Value)(w:World),(callFunc 157 a).run Tryz.prog w=.ok (.enter 157 a) w):Calls Tryz.prog 89 #[.slice A l.length c] w (xe w (a7 l)):=by
 have hn1:l.length≤1048576:=by unfold bV at hn;omega
 have hls:=gY l;go_enter Tryz.func89,Tryz.ntmps89;go_wp2_with fail;refine(lQ l A c w hn hl).mono ?_;rintro e1 w1 ⟨g,c1,rfl,ho,hb1⟩;have hown:=(ho.cB).ar g rfl;have hr:bc w.heap.size w1 g c1 l:=aB.mono ho.cB.apart fun b hb=>⟨⟨fun e=>hb.2 (by rw[e];rfl),hb.1.1⟩,hb.1.2⟩;have H1:=xQ (xP hr (xP hb1 hown));clear ho hb1 hr hown;go_wp2_with fail;refine(mq l hn1 w.heap.size g c1 w1 H1.out.1 hcf).mono ?_;rintro e2 w2 ⟨rfl,hr2,hk2⟩;have H2:=xQ (xP hr2 hk2);clear hr2 hk2;go_wp2_with fail;go_ret;refine⟨some ⟨g,0,none⟩,c1,by rw[hls];rfl,H2.out.1.sb,H1.out.2.1.trans (H2.out.2.below H1.out.2.1.size (fun b hb=>by rw[List.mem_singleton.1 hb];exact H1.out.2.2.1))⟩
def cH:List aa→List aa|a::_::t=>a::cH t|_=>[]
theorem nf: ∀(l:List aa)(k:Nat)(h:2*k+1<l.length),cH (l.take (2*(k+1)))=cH (l.take (2*k))++[l[2*k]]|[],k,h=>by simp at h|[a],k,h=>by simp at h|a::b::t,0,h=>by simp[cH]|a::b::t,k+1,h=>by have h1:=nf t k (by simp at h;omega);(have e1:(a::b::t).take (2*(k+1+1))=a::b::t.take (2*(k+1)):=by rw[show 2*(k+1+1)=2*(k+1)+1+1 from by omega];rfl);(have e2:(a::b::t).take (2*(k+1))=a::b::t.take (2*k):=by rw[show 2*(k+1)=2*k+1+1 from by omega];rfl);(have e3:(a::b::t)[2*(k+1)]=t[2*k]'(by simp at h;omega):=by simp[show 2*(k+1)=2*k+1+1 from by omega]);rw[e1,e2,e3,cH,cH,h1];rfl
theorem kI: ∀(l:List aa),(cH l).length=l.length/2|[]=>rfl|[a]=>by simp[cH]|a::b::t=>by rw[cH,List.length_cons,kI t];simp only[List.length_cons];omega
structure aM where
  at_ : Int
  name : aa
  ls : List ag
  gone : Bool
instance : Inhabited aM := ⟨⟨0, ⟨0, 0, 0, .empty, []⟩, [], false⟩⟩
instance : aG aM where
  wd := 8
  rp := fun w F x cs => ∃ F1 F2 c1 A c, F = F1 ++ F2 ∧ cs = .int .i64 x.at_ :: (c1 ++ [.slice A x.ls.length c, .bool x.gone]) ∧ aX x.at_ ∧ aG.rp w F1 x.name c1 ∧ ua w F2 x.ls A c
  len := by rintro _ _ _ _ ⟨_, _, c1, _, _, _, rfl, _, h, _⟩; have := aG.len h; simp [this]; rfl
  one := by
    rintro _ _ _ _ ⟨_, _, c1, _, _, _, rfl, _, h, _⟩ u hu
    simp only [List.mem_cons, List.mem_append, List.not_mem_nil, or_false] at hu
    rcases hu with rfl | hu | rfl | rfl
    · rfl
    · exact aG.one h u hu
    · rfl
    · rfl
  an := by
    rintro _ _ _ _ _ ⟨F1, F2, c1, A, c, rfl, rfl, hI, h1, h2⟩ hk
    exact ⟨F1, F2, c1, A, c, rfl, rfl, hI, aG.an h1 fun b hb => hk b (List.mem_append_left _ hb), h2.an fun b hb => hk b (List.mem_append_right _ hb)⟩
theorem RS.conv{w:World}{S:Nat→Prop}{x:aM}{cs:List Value}(h:RS w S x cs): ∃A c A' c',cs=[.int .i64 x.at_,.int .i64 x.name.kind,.int .i64 x.name.n,.int .i64 x.name.x,.string x.name.s,.slice A x.name.l.length c,.slice A' x.ls.length c',.bool x.gone]∧aX x.at_∧bB x.name∧SS w S x.name.l A c∧SS w S x.ls A' c':=by
 obtain⟨F,⟨F1,F2,c1,A',c',rfl,rfl,hI,h1,h2⟩,hF⟩:=h;obtain⟨A,c,rfl,h3,h4⟩:=dh.1 h1;exact⟨A,c,A',c',rfl,hI,h3,⟨F1,h4,fun b hb=>hF b (List.mem_append_left _ hb)⟩,⟨F2,h2,fun b hb=>hF b (List.mem_append_right _ hb)⟩⟩
theorem RS.ui{w:World}{S:Nat→Prop}{x:aM}{A A':Option Addr}{c c':Nat}(hI:aX x.at_)(hV:bB x.name)(h1:SS w S x.name.l A c)(h2:SS w S x.ls A' c'):RS w S x [.int .i64 x.at_,.int .i64 x.name.kind,.int .i64 x.name.n,.int .i64 x.name.x,.string x.name.s,.slice A x.name.l.length c,.slice A' x.ls.length c',.bool x.gone]:=by
 obtain⟨F1,h3,h4⟩:=h1;obtain⟨F2,h5,h6⟩:=h2;refine⟨F1++F2,⟨F1,F2,_,A',c',rfl,rfl,hI,dh.2 ⟨A,c,rfl,hV,h3⟩,h5⟩,fun b hb=> ?_⟩;rcases List.mem_append.1 hb with hb|hb;·exact h4 b hb
 ·exact h6 b hb
def dG(c:ai)(g:Bool):aM:=⟨c.at_,c.name,c.nl,g⟩
def jL:List ai→List aM|[]=>[]|c::l=>dG c (dL c l)::jL l
theorem iK: ∀cs,(jL cs).length=cs.length|[]=>rfl|c::l=>by rw[jL,List.length_cons,List.length_cons,iK l]
theorem qW: ∀(cs:List ai)(i:Nat)(h:i<cs.length),(jL cs)[i]'(by rw[iK];exact h)=dG cs[i] (dL cs[i] (cs.drop (i+1)))|c::l,0,h=>by simp[jL]|c::l,i+1,h=>by simp only[jL,List.getElem_cons_succ];rw[qW l i (by simpa using h)];simp
theorem ji : ∀ cs, (jL cs).filter (fun c => !c.gone) = (aD cs).map (dG · false)
  | [] => rfl
  | c :: l => by
    rw [jL, aD]
    cases h : dL c l
    · rw [List.filter_cons_of_pos (by simp [dG]), if_neg (by simp), List.map_cons, ji l]
    · rw [List.filter_cons_of_neg (by simp [dG]), if_pos rfl, ji l]
theorem tD{l:List Nat}(h:l.Nodup){m:List Nat}(hp:l.Perm m)(hm:m.Pairwise (·< ·)):l.Pairwise (·≤ ·)↔l=m:=by
 constructor;·intro hl;refine List.Perm.eq_of_pairwise (le:=(·≤ ·)) (fun a b _ _ h1 h2=>Nat.le_antisymm h1 h2) hl (hm.imp fun h=>Nat.le_of_lt h) hp
 ·rintro rfl;exact hm.imp fun h=>Nat.le_of_lt h
theorem eD: ∀cs:List ai,(aD cs).Sublist cs|[]=>.slnil|c::cs=>by rw[aD];split;(·exact(eD cs).cons c);·exact(eD cs).cons_cons c
theorem tp(way:Int)(l:List aa)(p:List GStep):((aD (ei way l p)).map ai.at_).Pairwise (·< ·):=by
 have h0:((ei way l p).map ai.at_).Pairwise (·< ·):=by unfold ei;rw[iR];exact List.pairwise_lt_range'
 exact List.Pairwise.sublist ((eD _).map _) h0
theorem sc(way:Int)(l:List aa)(p:List GStep):((cf way (aD (ei way l p))).map ai.at_).Pairwise (·≤ ·)↔(cf way (aD (ei way l p))).map ai.at_=(aD (ei way l p)).map ai.at_:=by
 have hr:=tp way l p;have hp:=(c7 way (aD (ei way l p))).map ai.at_;exact tD (hp.nodup_iff.2 (hr.imp fun h=>Nat.ne_of_lt h)) hp hr
theorem qN(p:List GStep): ∀(cs:List ai)(i:Nat)(h:i<cs.length),bX p (cs.drop i)=(if dL cs[i] (cs.drop (i+1)) then[⟨8,p++[⟨cs[i].at_,true⟩]⟩] else cs[i].nl)++bX p (cs.drop (i+1)):=by
 intro cs i h;rw[List.drop_eq_getElem_cons h,bX]
theorem SA.me{w:World}{l:List aM}{A:Option Addr}{c:Nat}(h:SA w l A c){i:Nat}(hi:i<l.length): ∃b off A1 c1 A2 c2,A=some ⟨b,off,none⟩∧b<w.heap.size∧aX l[i].at_∧bB l[i].name∧SA w l[i].name.l A1 c1∧SA w l[i].ls A2 c2∧w.cell? ⟨b,off+i*8,none⟩=some (.int .i64 l[i].at_)∧w.cell? ⟨b,off+i*8+1,none⟩=some (.int .i64 l[i].name.kind)∧w.cell? ⟨b,off+i*8+1+1,none⟩=some (.int .i64 l[i].name.n)∧w.cell? ⟨b,off+i*8+1+1+1,none⟩=some (.int .i64 l[i].name.x)∧w.cell? ⟨b,off+i*8+1+1+1+1,none⟩=some (.string l[i].name.s)∧w.cell? ⟨b,off+i*8+1+1+1+1+1,none⟩=some (.slice A1 l[i].name.l.length c1)∧w.cell? ⟨b,off+i*8+1+1+1+1+1+1,none⟩=some (.slice A2 l[i].ls.length c2)∧w.cell? ⟨b,off+i*8+1+1+1+1+1+1+1,none⟩=some (.bool l[i].gone):=by
 obtain⟨b,off,cs,rfl,hb,hr,hc⟩:=h.at hi;obtain⟨A1,c1,A2,c2,rfl,h1,h2,h3,h4⟩:=RS.conv hr;exact⟨b,off,A1,c1,A2,c2,rfl,hb,h1,h2,h3,h4,hc 0 _ rfl,hc 1 _ rfl,hc 2 _ rfl,hc 3 _ rfl,hc 4 _ rfl,hc 5 _ rfl,hc 6 _ rfl,hc 7 _ rfl⟩
theorem jH(l:List aM)(A:Option Addr)(c:Nat)(w:World)(fn:Nat)(v1 v2:Value)(f:aM→Bool)(hl:SA w l A c)(hcf: ∀(a:Array Value)(w:World),(callFunc fn a).run Tryz.prog w=.ok (.enter fn a) w)(H: ∀(x:aM),x∈l→ ∀(A1 A2:Option Addr)(c1 c2:Nat)(w1:World),Below w.heap.size w w1→SA w1 x.name.l A1 c1→Calls Tryz.prog fn #[.agg #[.int .i64 x.at_,.int .i64 x.name.kind,.int .i64 x.name.n,.int .i64 x.name.x,.string x.name.s,.slice A1 x.name.l.length c1,.slice A2 x.ls.length c2,.bool x.gone],v1,v2] w1 (cd w1 (.bool (f x)))):Calls Tryz.prog 136 #[.slice A l.length c,.func (.func fn) #[] #[v1,v2]] w (cd w (.int .i64 (idxOf f l))):=by
 obtain⟨r,hr⟩: ∃r,r=idxOf f l:=⟨_,rfl⟩;rw[←hr];have R:=xQ hr;clear hr;have hm:l.length≤9223372036854775807:=by have:=hl.len;unfold maxLen at this;omega
 have E:=xQ hl;clear hl;have HH:=xQ H;clear H;go_enter Tryz.func136,Tryz.ntmps136;go_wp2_with fail;go_loopg[8] l.length (fun gk i wr=> ∃k:Nat,k≤l.length∧i=.int .i64 k∧gk=l.length-k∧Hid ((l.take k).any f=false)∧Below w.heap.size w wr);case atStart=>exact⟨0,by omega,rfl,by omega,rfl,af w⟩
 case round=>
  obtain⟨k,hk,rfl,rfl,hT,hbel⟩:=hrel;by_cases hlt:k<l.length
  ·obtain⟨b,off,A1,c1,A2,c2,rfl,hb,hi1,hi2,hs,hs2,k0,k1,k2,k3,k4,k5,k6,k7⟩:=(E.out.below hbel).me hlt;have HS:=xQ hs;clear hs hs2 hi1 hi2;cases hB:f l[k];all_goals have HB:=xQ hB;clear hB;go_wp2_with fail;refine(HH.out l[k] (List.getElem_mem hlt) A1 A2 c1 c2 _ hbel HS.out).mono ?_;rintro e w1 ⟨rfl,hb1⟩;rw[HB.out];go_wp2_with fail
   ·go_roundg(l.length-(k+1));case measure=>omega
    case rel=>exact⟨k+1,by omega,by go_num,rfl,oT hlt hT.out HB.out,al hbel hb1⟩
   ·go_ret;exact⟨by rw[R.out,idxOf_hit hlt hT.out HB.out];rfl,al hbel hb1⟩
  ·have e:k=l.length:=by omega
   go_wp2_with fail;go_ret;exact⟨by rw[R.out,oE e hT.out];rfl,hbel⟩
theorem wD{α:Type}(f:α→Bool)(l:List α):decide (0≤idxOf f l)=l.any f:=by
 unfold idxOf;cases h:l.findIdx? f with|none=>rw[List.findIdx?_eq_none_iff] at h;(have:l.any f=false:=by rw[List.any_eq_false];intro x hx;simp[h x hx]);simp[this]|some i=>rw[List.findIdx?_eq_some_iff_getElem] at h;obtain⟨h1,h2,_⟩:=h;have:l.any f=true:=List.any_eq_true.2 ⟨l[i],List.getElem_mem h1,h2⟩;simp[this]
theorem eH(l:List aM)(A:Option Addr)(c:Nat)(w:World)(fn:Nat)(v1 v2:Value)(f:aM→Bool)(hl:SA w l A c)(hcf: ∀(a:Array Value)(w:World),(callFunc fn a).run Tryz.prog w=.ok (.enter fn a) w)(H: ∀(x:aM),x∈l→ ∀(A1 A2:Option Addr)(c1 c2:Nat)(w1:World),Below w.heap.size w w1→SA w1 x.name.l A1 c1→Calls Tryz.prog fn #[.agg #[.int .i64 x.at_,.int .i64 x.name.kind,.int .i64 x.name.n,.int .i64 x.name.x,.string x.name.s,.slice A1 x.name.l.length c1,.slice A2 x.ls.length c2,.bool x.gone],v1,v2] w1 (cd w1 (.bool (f x)))):Calls Tryz.prog 198 #[.slice A l.length c,.func (.func fn) #[] #[v1,v2]] w (cd w (.bool (l.any f))):=by
 have h0:=jH l A c w fn v1 v2 f hl hcf H;have hge:=wD f l;obtain⟨I,hI⟩: ∃I,I=idxOf f l:=⟨_,rfl⟩;obtain⟨D,hD⟩: ∃D,D=l.any f:=⟨_,rfl⟩;rw[←hI] at h0 hge;rw[←hD] at hge ⊢;have E:=xQ (xP h0 hge);clear h0 hge hI hD H hl;go_enter Tryz.func198,Tryz.ntmps198;go_wp2_with fail;refine E.out.1.mono ?_;rintro e w1 ⟨rfl,hb⟩;have H1:=xQ hb;clear hb;go_wp2_with fail;go_ret;exact⟨by rw[←E.out.2];rfl,H1.out⟩
section
def ur{α:Type}[Inhabited α](l:List α)(i j:Nat):List α:=(l.set i (l.getD j default)).set j (l.getD i default)
theorem qP{α:Type}[Inhabited α](P R:List α)(x y:α):ur (P++y::x::R) (P.length+1) P.length=P++x::y::R:=by
 unfold ur;rw[List.getD_eq_getElem?_getD,List.getD_eq_getElem?_getD,List.getElem?_append_right (by omega),List.getElem?_append_right (by omega)];simp only[Nat.sub_self,List.getElem?_cons_zero,Option.getD_some,show P.length+1-P.length=1 by omega,List.getElem?_cons_succ];rw[List.set_append_right _ _ (by omega),List.set_append_right _ _ (by omega)];simp
def lF{α:Type}(T q D:List α)(x:α)(m:Nat):List α:=T++(q.take m++x::q.drop m)++D
theorem oB{α:Type}(T q D:List α)(x:α){m:Nat}(h:m<q.length):lF T q D x (m+1)=(T++q.take m)++q[m]::x::(q.drop (m+1)++D):=by
 unfold lF;rw[List.take_succ_eq_append_getElem h];simp only[List.append_assoc,List.cons_append,List.nil_append]
theorem tQ{α:Type}(T q D:List α)(x:α){m:Nat}(h:m<q.length):(T++q.take m)++x::q[m]::(q.drop (m+1)++D)=lF T q D x m:=by
 unfold lF;rw[List.drop_eq_getElem_cons h];simp only[List.append_assoc,List.cons_append]
section
variable {α : Type} [aG α] {t : TypeId} {base : Nat} {w w' : World} {g c : Nat} {l : List α}
theorem aB.vE{n c:Nat}{S:Nat→Prop}(h:aB w base t (.slice (some ⟨g,0,none⟩) n c) l S){i:Nat}(hi:i<l.length){a:α}{cs:List Value}(hr:RS w S a cs)(hg: ∀b,S b→b≠g):aB (bg w g (i*aG.wd α) cs) base t (.slice (some ⟨g,0,none⟩) n c) (l.set i a) S:=by
 obtain⟨F,h1,h2⟩:=h;obtain⟨F',h3,h4⟩:=hr;obtain⟨F1,F2,F3,hF,h5⟩:=h1.stored hi h3 (fun hm=>hg g (h4 g hm) rfl);subst hF;refine⟨_,h5,fun b hb=> ?_⟩;simp only[List.mem_append] at hb;rcases hb with hb|hb|hb;·exact h2 b (by simp[hb])
 ·exact h4 b hb
 ·exact h2 b (by simp[hb])
def rB(t:TypeId)(base:Nat)(w:World)(g c:Nat)(l:List α):Prop:=aB w base t (.slice (some ⟨g,0,none⟩) l.length c) l (fun b=>(base≤b∧b≠g)∧b<w.heap.size)
theorem rB.below(h:rB t base w g c l)(hb:Below w.heap.size w w'):rB t base w' g c l:=aB.mono (aB.an h hb fun b hb=>hb.2) fun b h=>⟨h.1,Nat.lt_of_lt_of_le h.2 hb.size⟩
theorem rB.lt(h:rB t base w g c l):g<w.heap.size:=(aB.ar h g rfl).2
theorem rB.at(h:rB t base w g c l){i:Nat}(hi:i<l.length): ∃cs,RS w (fun b=>(base≤b∧b≠g)∧b<w.heap.size) l[i] cs∧aZ w g (i*aG.wd α) cs:=by
 obtain⟨F,h1,h2⟩:=h;obtain⟨F',cs,hr,hs,hc⟩:=h1.at hi;exact⟨cs,⟨F',hr,fun b hb=>h2 b (hs b hb)⟩,hc⟩
theorem df(w:World)(g off:Nat)(cs:List Value):Kept [g] w (bg w g off cs):=by
 have h:=iy g cs w off;exact⟨h.1,h.2.1,h.2.2,by rw[ca];omega,fun b _ hb=>bp g cs w off b (by simpa using hb)⟩
end
end
section
theorem gf(b:Nat): ∀(cs:List Value)(w:World)(o:Nat),w.setCells b o cs=bg w b o cs|[],_,_=>rfl|c::cs,w,o=>gf b cs _ (o+1)
section
variable {α : Type} [aG α] {t : TypeId} {base : Nat} {w w' : World} {g c n : Nat} {l l1 l2 : List α} {S : Nat → Prop}
theorem aB.part(h:aB w base t (.slice (some ⟨g,0,none⟩) n c) (l1++l2) S):aB w base t (.slice (some ⟨g,0,none⟩) l1.length c) l1 S:=by
 obtain⟨F,⟨xs,⟨h1,h2⟩,h3,h4⟩,hS⟩:=h;obtain⟨F1,F2,xs1,xs2,rfl,rfl,e1,e2⟩:=h3.split;have hl1:=e1.len;rcases h2 with⟨h2,_⟩|⟨g',cap,cur,hv,hb,hh,hn,hc,hz,ht⟩;·cases h2
 ·injection hv with hv1 hv2 hv3;injection hv1 with hv1;injection hv1 with hv1;subst hv1 hv3;refine⟨F1,⟨xs1,⟨hl1,.inr ⟨g,c,cur,rfl,hb,hh,?_,hc,hz,?_⟩⟩,e1,fun g' hg' hm=>h4 g' hg' (List.mem_append_left _ hm)⟩,fun b hb=>hS b (List.mem_append_left _ hb)⟩;·rw[List.length_append] at hn;omega
  ·have h5:=congrArg (List.take (l1.length*aG.wd α)) ht;rw[List.take_take,Nat.min_eq_left (Nat.mul_le_mul_right _ (by rw[List.length_append];omega))] at h5;rw[h5,List.take_left' hl1]
def bD(Q:Nat→Prop)(t:TypeId)(base:Nat)(w:World)(g c:Nat)(l:List α):Prop:=aB w base t (.slice (some ⟨g,0,none⟩) l.length c) l (fun b=>(Q b∧b≠g)∧b<w.heap.size)
variable {Q : Nat → Prop}
theorem bD.below(h:bD Q t base w g c l)(hb:Below w.heap.size w w'):bD Q t base w' g c l:=aB.mono (aB.an h hb fun b hb=>hb.2) fun b h=>⟨h.1,Nat.lt_of_lt_of_le h.2 hb.size⟩
theorem bD.lt(h:bD Q t base w g c l):g<w.heap.size:=(aB.ar h g rfl).2
theorem bD.ge(h:bD Q t base w g c l):base≤g:=(aB.ar h g rfl).1
theorem bD.ss(h:bD Q t base w g c l):SS w (fun b=>(b=g∨Q b)∧b<w.heap.size) l (some ⟨g,0,none⟩) c:=by
 have hlt:=h.lt;obtain⟨_,h2⟩:=aB.ss h w (fun b=>(b=g∨Q b)∧b<w.heap.size) (fun _ _=>rfl) (fun b hb=>by rcases hb with hb|hb;(·simp only[Value.ownBlock,Option.some.injEq] at hb;subst hb;exact⟨.inl rfl,hlt⟩);·exact⟨.inr hb.1.1,hb.2⟩);exact h2
theorem bD.sa(h:bD Q t base w g c l):SA w l (some ⟨g,0,none⟩) c:=SS.an h.ss (fun _ _=>rfl) (fun _ hb=>hb.2)
theorem bD.at(h:bD Q t base w g c l){i:Nat}(hi:i<l.length): ∃cs,RS w (fun b=>(Q b∧b≠g)∧b<w.heap.size) l[i] cs∧aZ w g (i*aG.wd α) cs:=by
 obtain⟨F,h1,h2⟩:=h;obtain⟨F',cs,hr,hs,hc⟩:=h1.at hi;exact⟨cs,⟨F',hr,fun b hb=>h2 b (hs b hb)⟩,hc⟩
theorem bD.fz(h:bD Q t base w g c l){i:Nat}(hi:i<l.length){j:Nat}(hj:j<aG.wd α):w.frozen? ⟨g,i*aG.wd α+j,none⟩=false:=by
 obtain⟨F,h1,h2⟩:=h;exact(h1.facts hi hj).2
theorem bD.put(h:bD Q t base w g c l){i:Nat}(hi:i<l.length){a:α}{cs:List Value}(hr:RS w (fun b=>(Q b∧b≠g)∧b<w.heap.size) a cs):bD Q t base (bg w g (i*aG.wd α) cs) g c (l.set i a):=by
 have h1:=aB.vE h hi hr (fun b hb=>hb.1.2);unfold bD;rw[List.length_set];exact aB.mono h1 fun b hb=>⟨hb.1,by rw[ca];exact hb.2⟩
theorem bD.swap[Inhabited α](h:bD Q t base w g c l){i j:Nat}(hi:i<l.length)(hj:j<l.length){cx cy:List Value}(hx:RS w (fun b=>(Q b∧b≠g)∧b<w.heap.size) l[i] cx)(hy:RS w (fun b=>(Q b∧b≠g)∧b<w.heap.size) l[j] cy):bD Q t base (bg (bg w g (i*aG.wd α) cy) g (j*aG.wd α) cx) g c (ur l i j):=by
 have h1:=h.put hi hy;have hx':RS (bg w g (i*aG.wd α) cy) (fun b=>(Q b∧b≠g)∧b<(bg w g (i*aG.wd α) cy).heap.size) l[i] cx:=RS.an hx (fun b hb=>bp g cy w _ b hb.1.2) (fun b hb=>⟨hb.1,by rw[ca];exact hb.2⟩);have h2:=h1.put (i:=j) (by simpa using hj) hx';have e:(l.set i l[j]).set j l[i]=ur l i j:=by unfold ur;rw[List.getD_eq_getElem?_getD,List.getD_eq_getElem?_getD,List.getElem?_eq_getElem hi,List.getElem?_eq_getElem hj];rfl
 rwa[e] at h2
theorem bD.part(h:bD Q t base w g c (l1++l2)):bD Q t base w g c l1:=aB.part h
theorem bD.take(h:bD Q t base w g c l)(i:Nat):bD Q t base w g c (l.take i):=by
 have h0:=h;rw[←List.take_append_drop i l] at h0;exact h0.part
theorem kf(g:Nat)(e:TypeId): ∀(cs:List Value)(w:World)(off:Nat)(cur:Array Value),w.heap[g]? =some (.cells cur e (0,0))→ ∃cur',(bg w g off cs).heap[g]? =some (.cells cur' e (0,0))∧cur'.size=cur.size∧ ∀k,k≤off→cur'.toList.take k=cur.toList.take k|[],w,off,cur,h=>⟨cur,h,rfl,fun _ _=>rfl⟩|u::cs,w,off,cur,h=>by(have h1:(w.setCell ⟨g,off,none⟩ u).heap[g]? =some (.cells (cur.setIfInBounds off u) e (0,0)):=by simp[World.setCell,Array.getElem?_modify,h]);obtain⟨cur',h2,h3,h4⟩:=kf g e cs _ (off+1) _ h1;refine⟨cur',h2,by rw[h3];simp,fun k hk=> ?_⟩;rw[h4 k (by omega),Array.toList_setIfInBounds];exact List.take_set_of_le hk
theorem bD.beyond(h:bD Q t base w g c l)(off:Nat)(hoff:l.length*aG.wd α≤off)(cs:List Value):bD Q t base (bg w g off cs) g c l:=by
 obtain⟨F,⟨xs,⟨h1,h2⟩,h3,h4⟩,hS⟩:=h;rcases h2 with⟨h2,_⟩|⟨g',cap,cur,hv,hb,hh,hn,hc,hz,ht⟩;·cases h2
 ·injection hv with hv1 hv2 hv3;injection hv1 with hv1;injection hv1 with hv1;subst hv1 hv3;obtain⟨cur',k1,k2,k3⟩:=kf g t cs w off cur hh;refine⟨F,⟨xs,⟨h1,.inr ⟨g,c,cur',rfl,hb,k1,hn,hc,by rw[k2,hz],by rw[k3 _ hoff,ht]⟩⟩,h3.an fun b hb=>bp g cs w off b (hS b hb).1.2,h4⟩,fun b hb=>⟨(hS b hb).1,by rw[ca];exact(hS b hb).2⟩⟩
theorem bD.open(h:bD Q t base w g c l){j:Nat}(hj:j<l.length*aG.wd α):(w.cell? ⟨g,j,none⟩).isSome=true∧w.frozen? ⟨g,j,none⟩=false:=by
 obtain⟨F,⟨xs,⟨h1,h2⟩,h3,h4⟩,hS⟩:=h;rcases h2 with⟨h2,_⟩|⟨g',cap,cur,hv,hb,hh,hn,hc,hz,ht⟩;·cases h2
 ·injection hv with hv1 hv2 hv3;injection hv1 with hv1;injection hv1 with hv1;subst hv1 hv3;refine⟨?_,by simp[World.frozen?,hh]⟩;rw[cell_of_row w g j cur t (0,0) hh];have:j<cur.size:=by rw[hz];exact Nat.lt_of_lt_of_le hj (Nat.mul_le_mul_right _ hn)
  simp[this]
end
theorem nG{P:Program}(w:World)(t e ty:TypeId)(z:Value)(k:Nat)(ht:P.underlying t=some (.slice e))(hv: ∀w,(zeroValue e).run P w=.ok z w)(hk:z.cells.size=k)(h1: ∀i,i<k→(z.cells[i]!).oneCell'=true)(b o n c:Nat)(hn:0<n)(hk0:0<k)(hc: ∀j,j<n*k→(w.cell? ⟨b,o*k+j,none⟩).isSome=true)(hf: ∀j,j<n*k→w.frozen? ⟨b,o*k+j,none⟩=false):(Builtin.clear_ #[t] ty #[.slice (some ⟨b,o*k,none⟩) n c]).run P w=.ok (.tuple #[]) (bg w b (o*k) (Builtin.zeroCells z.cells n).toList):=by
 have hl:(Builtin.zeroCells z.cells n).toList.length=n*k:=by simp[Builtin.zeroCells,hk]
 have hst:=run_storeCells_cells (P:=P) b (o*k) (Builtin.zeroCells z.cells n).toList 0 w (by rw[hl];simpa using hc) (by rw[hl];simpa using hf) (by intro v hv';simp only[Builtin.zeroCells,Array.toList_map,List.mem_map,Array.mem_toList_iff,Array.mem_range] at hv';obtain⟨i,_,rfl⟩:=hv';rw[hk];exact h1 _ (Nat.mod_lt _ hk0));simp only[Nat.add_zero] at hst;obtain⟨m,rfl⟩: ∃m,n=m+1:=⟨n-1,by omega⟩;rw[←gf];simp[Builtin.clear_,run_underlying ht,hv,hst]
end
end Go.Proofs.YtodpdjehjllhdaaGreatDoor
