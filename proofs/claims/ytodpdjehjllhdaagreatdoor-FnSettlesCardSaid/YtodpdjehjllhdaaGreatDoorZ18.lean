/- Part of a proof: contracts and plain laws. -/
import Derived.Test.YtodpdjehjllhdaaGreatDoorZ03
set_option linter.unusedVariables false
set_option maxRecDepth 100000
set_option maxHeartbeats 20000000
namespace Go.Proofs.YtodpdjehjllhdaaGreatDoor
open Go.RowKit
section
def lT{σ:Type}(I:σ→List Nat→World→Prop)(own:List Nat)(w:World)(s':σ)(val:Value)(e:Ending)(w':World):Prop:=e=.returned val∧ ∃own',I s' own' w'∧(∀b,b∈own'→b∈own∨w.heap.size≤b)∧Kept own w w'
theorem Kept.step{own own1:List Nat}{w w1 w2:World}(h:Kept own w w1)(h1: ∀b,b∈own1→b∈own∨w.heap.size≤b)(h2:Kept own1 w1 w2):Kept own w w2:=⟨h2.1.trans h.1,h2.2.1.trans h.2.1,h2.2.2.1.trans h.2.2.1,Nat.le_trans h.2.2.2.1 h2.2.2.2.1,fun b hb hn=>(h2.2.2.2.2 b (Nat.lt_of_lt_of_le hb h.2.2.2.1) (fun hm=>by rcases h1 b hm with h|h;(·exact hn h);·omega)).trans (h.2.2.2.2 b hb hn)⟩
section
variable {σ : Type} (st : σ → aa → σ × Bool) (I : σ → List Nat → World → Prop) (S : Nat → Prop) (fn : Nat) (caps : Array Value) (B : σ → Nat)
structure Cb : Prop where
  an : ∀ s own w w', I s own w → Below w.heap.size w w' → I s own w'
  apart : ∀ s own w, I s own w → ∀ b, S b → b < w.heap.size ∧ b ∉ own
  lt : ∀ s own w, I s own w → ∀ b, b ∈ own → b < w.heap.size
  call : ∀ s own w (x : aa) A c, I s own w → SS w S x.l A c → bB x → bulkVal x ≤ 1048576 → B s ≤ 4194304 → Calls Tryz.prog fn (#[.agg #[.int .i64 x.kind, .int .i64 x.n, .int .i64 x.x, .string x.s, .slice A x.l.length c]] ++ caps) w (lT I own w (st s x).1 (.bool (st s x).2))
  bud : ∀ s x, B (st s x).1 ≤ B s + 1
  enter : ∀ (a : Array Value) (w : World), (callFunc fn a).run Tryz.prog w = .ok (.enter fn a) w
variable {st I S fn caps B}
theorem lT.up{own:List Nat}{w w1 w':World}{s':σ}{val:Value}{e:Ending}(h:lT I own w1 s' val e w')(hb:Below w.heap.size w w1):lT I own w s' val e w':=by
 obtain⟨rfl,own',h1,h2,h3⟩:=h;refine⟨rfl,own',h1,fun b hb'=> ?_,(Kept.ay hb).trans h3⟩;rcases h2 b hb' with h|h;·exact .inl h
 ·exact .inr (Nat.le_trans hb.size h)
def jr(st:σ→aa→σ×Bool)(I:σ→List Nat→World→Prop)(S:Nat→Prop)(fn:Nat)(caps:Array Value)(B:σ→Nat)(v:aa):Prop:= ∀(s:σ)(own:List Nat)(A:Option Addr)(c:Nat)(w:World),I s own w→SS w S v.l A c→bB v→bulkVal v≤1048576→B s+1+bulkVal v≤4194304→Calls Tryz.prog 129 #[.agg #[.int .i64 v.kind,.int .i64 v.n,.int .i64 v.x,.string v.s,.slice A v.l.length c],.func (.func fn) #[] caps] w (lT I own w (evG st v s).1 (.bool (evG st v s).2))
theorem SS.sw{w:World}{S:Nat→Prop}{l:List aa}{A:Option Addr}{c:Nat}(h:SS w S l A c){i:Nat}(hi:i<l.length): ∃b off A' c',A=some ⟨b,off,none⟩∧S b∧bB l[i]∧SS w S l[i].l A' c'∧w.cell? ⟨b,off+i*5,none⟩=some (.int .i64 l[i].kind)∧w.cell? ⟨b,off+i*5+1,none⟩=some (.int .i64 l[i].n)∧w.cell? ⟨b,off+i*5+1+1,none⟩=some (.int .i64 l[i].x)∧w.cell? ⟨b,off+i*5+1+1+1,none⟩=some (.string l[i].s)∧w.cell? ⟨b,off+i*5+1+1+1+1,none⟩=some (.slice A' l[i].l.length c'):=by
 obtain⟨F,⟨h1,h2,h3⟩,hF⟩:=h;rcases h3 with⟨rfl,_⟩|⟨b,off,F',xs,hA,rfl,he,hc⟩;·simp at hi
 ·obtain⟨F1,cs,hr,hsub,hx⟩:=he.get i hi;obtain⟨A',c',rfl,hv,hs⟩:=dh.1 hr;have h0:=hc.sub hx;exact⟨b,off,A',c',hA,hF b (List.mem_cons_self ..),hv,⟨F1,hs,fun b hb=>hF b (List.mem_cons_of_mem _ (hsub b hb))⟩,h0.c0,h0.c1,h0.c2,h0.c3,h0.c4⟩
theorem r9(C:Cb st I S fn caps B)(x:aa)(hE:jr st I S fn caps B x)(s:σ)(own:List Nat)(p:Nat)(A:Option Addr)(c:Nat)(w:World)(hI:I s own w)(hs:SS w S x.l A c)(hv:bB x)(hn:bulkVal x≤1048576)(hB:B s+1+bulkVal x≤4194304)(hp:w.cell? ⟨p,0,none⟩=some (.func (.func fn) #[] caps))(hpl:p<w.heap.size):Calls Tryz.prog 187 #[.agg #[.int .i64 x.kind,.int .i64 x.n,.int .i64 x.x,.string x.s,.slice A x.l.length c],.pointer (some ⟨p,0,none⟩)] w (lT I own w (evG st x s).1 (.bool (!(evG st x s).2))):=by
 have b0:=ab (af w) (.cells #[.int .i64 x.kind,.int .i64 x.n,.int .i64 x.x,.string x.s,.slice A x.l.length c] 27);have hC:=hE s own A c (w.alloc (.cells #[.int .i64 x.kind,.int .i64 x.n,.int .i64 x.x,.string x.s,.slice A x.l.length c] 27)) (C.an _ _ _ _ hI b0) (SS.an hs (fun b h=>b0.block b (C.apart _ _ _ hI b h).1) (fun b h=>h)) hv hn hB;obtain⟨r,hr⟩: ∃r,r=evG st x s:=⟨_,rfl⟩;rw[←hr] at hC ⊢;obtain⟨s1,b⟩:=r;simp only at hC ⊢;have B0:=xQ b0;clear b0;have HC:=xQ hC;clear hC hI hs hv hE C hr;cases b;all_goals go_enter Tryz.func187,Tryz.ntmps187;go_wp2_with fail;refine HC.out.mono ?_;rintro e w1 ⟨rfl,own',h1,h2,h3⟩;have HE:=xQ (xP h1 (xP h2 h3));clear h1 h2 h3;go_wp2_with fail;go_ret;exact lT.up (w1:=w.alloc (.cells #[.int .i64 x.kind,.int .i64 x.n,.int .i64 x.x,.string x.s,.slice A x.l.length c] 27)) ⟨rfl,own',HE.out.1,HE.out.2.1,HE.out.2.2⟩ B0.out
theorem ph(C:Cb st I S fn caps B)(l:List aa)(hE: ∀i(hi:i<l.length),jr st I S fn caps B l[i])(s:σ)(own:List Nat)(p:Nat)(A:Option Addr)(c:Nat)(w:World)(hn:bulkVals l≤1048576)(hB:B s+bulkVals l≤4194304)(hI:I s own w)(hs:SS w S l A c)(hp:w.cell? ⟨p,0,none⟩=some (.func (.func fn) #[] caps))(hpl:p<w.heap.size)(hpo:p∉own)(hcf: ∀(a:Array Value)(w:World),(callFunc 187 a).run Tryz.prog w=.ok (.enter 187 a) w):Calls Tryz.prog 241 #[.slice A l.length c,.func (.func 187) #[] #[.pointer (some ⟨p,0,none⟩)]] w fun e w'=> ∃i:Int,(decide (0≤i)= !(evL st l s).2)∧lT I own w (evL st l s).1 (.int .i64 i) e w':=by
 have hls:l.length≤9223372036854775807:=by rw[aO] at hn;omega
 have HH:=xQ (xP C (xP hE (xP hs (xP hp hpo))));clear C hE hp hpo;have HI:=xQ hI;clear hI hs;obtain⟨r,hr⟩: ∃r,r=evL st l s:=⟨_,rfl⟩;rw[←hr];have R:=xQ hr;clear hr;go_enter Tryz.func241,Tryz.ntmps241;go_wp2_with fail;go_loopg[8] l.length (fun gk i wr=> ∃(k:Nat) (sk:σ) (ownk:List Nat),k≤l.length∧i=.int .i64 k∧gk=l.length-k∧Hid (evL st (l.take k) s=(sk,true)∧I sk ownk wr∧(∀b,b∈ownk→b∈own∨w.heap.size≤b)∧Kept own w wr));case atStart=>exact⟨0,s,own,by omega,rfl,by omega,by simp[evL],HI.out,fun b h=>.inl h,Kept.refl _ _⟩
 case round=>
  obtain⟨k,sk,ownk,hk,rfl,rfl,hT⟩:=hrel;by_cases hlt:k<l.length
  ·have hss:SS wr S l A c:=SS.an HH.out.2.2.1 (fun b h=>hT.out.2.2.2.2.2.2.2 b (HH.out.1.apart _ _ _ HI.out b h).1 (HH.out.1.apart _ _ _ HI.out b h).2) (fun b h=>h);obtain⟨b,off,A1,c1,rfl,hb,hv,hs1,k0,k1,k2,k3,k4⟩:=hss.sw hlt;have hpk:wr.cell? ⟨p,0,none⟩=some (.func (.func fn) #[] caps):=(World.cell?_of_block (a:=⟨p,0,none⟩) (hT.out.2.2.2.2.2.2.2 p hpl HH.out.2.2.2.2)).trans HH.out.2.2.2.1;have hplk:p<wr.heap.size:=Nat.lt_of_lt_of_le hpl hT.out.2.2.2.2.2.2.1;have hnk:bulkVal l[k]≤1048576:=by have:=dM bulkVal l hlt;rw[aO] at hn;omega
   have hC:=r9 HH.out.1 l[k] (HH.out.2.1 k hlt) sk ownk p A1 c1 wr hT.out.2.1 hs1 hv hnk (by have h1:=vo st HH.out.1.bud (l.take k) s;rw[hT.out.1] at h1;simp only at h1;have h2:=tM hlt;omega) hpk hplk;obtain⟨q,hq⟩: ∃q,q=evG st l[k] sk:=⟨_,rfl⟩;rw[←hq] at hC;have HC:=xQ hC;clear hC hss hs1 hpk;have HQ:=xQ hq;clear hq;obtain⟨s1,bb⟩:=q;cases bb;all_goals go_wp2_with fail;refine HC.out.mono ?_;rintro e w1 ⟨rfl,own1,h1,h2,h3⟩;have HE:=xQ (xP h1 (xP h2 h3));clear h1 h2 h3;simp only[Bool.not_false,Bool.not_true];go_wp2_with fail
   ·go_ret;have hr:=uS st hlt hT.out.1 HQ.out.symm;refine⟨k,?_,?_⟩;·rw[R.out,hr];simp
    ·rw[R.out,hr];exact⟨rfl,own1,HE.out.1,fun b hb=>by rcases HE.out.2.1 b hb with h|h;(·exact hT.out.2.2.1 b h);·exact .inr (Nat.le_trans hT.out.2.2.2.2.2.2.1 h),hT.out.2.2.2.step hT.out.2.2.1 HE.out.2.2⟩
   ·go_roundg(l.length-(k+1));case measure=>omega
    case rel=>
     refine⟨k+1,s1,own1,by omega,by go_num,rfl,?_,HE.out.1,fun b hb=> ?_,hT.out.2.2.2.step hT.out.2.2.1 HE.out.2.2⟩;·rw[List.take_succ_eq_append_getElem hlt];exact oh st hT.out.1 HQ.out.symm
     ·rcases HE.out.2.1 b hb with h|h;·exact hT.out.2.2.1 b h
      ·exact .inr (Nat.le_trans hT.out.2.2.2.2.2.2.1 h)
  ·have e:k=l.length:=by omega
   have hr:r=(sk,true):=by rw[R.out,←hT.out.1,e,List.take_length]
   subst hr;go_wp2_with fail;go_ret;exact⟨-1,by simp,rfl,ownk,hT.out.2.1,hT.out.2.2.1,hT.out.2.2.2⟩
theorem j8(C:Cb st I S fn caps B)(l:List aa)(hE: ∀i(hi:i<l.length),jr st I S fn caps B l[i])(s:σ)(own:List Nat)(p:Nat)(A:Option Addr)(c:Nat)(w:World)(hn:bulkVals l≤1048576)(hB:B s+bulkVals l≤4194304)(hI:I s own w)(hs:SS w S l A c)(hp:w.cell? ⟨p,0,none⟩=some (.func (.func fn) #[] caps))(hpl:p<w.heap.size)(hpo:p∉own):Calls Tryz.prog 186 #[.slice A l.length c,.func (.func 187) #[] #[.pointer (some ⟨p,0,none⟩)]] w (lT I own w (evL st l s).1 (.bool (!(evL st l s).2))):=by
 have hC:=ph C l hE s own p A c w hn hB hI hs hp hpl hpo (fun a w=>by kernel_rfl);obtain⟨r,hr⟩: ∃r,r=evL st l s:=⟨_,rfl⟩;rw[←hr] at hC ⊢;have HC:=xQ hC;clear hC hr hE C hI hs hp hpo;go_enter Tryz.func186,Tryz.ntmps186;go_wp2_with fail;refine HC.out.mono ?_;rintro e w1 ⟨i,hi,rfl,own1,h1,h2,h3⟩;have HE:=xQ (xP hi (xP h1 (xP h2 h3)));clear hi h1 h2 h3;go_wp2_with fail;go_ret;exact⟨by rw[←HE.out.1];rfl,own1,HE.out.2.1,HE.out.2.2.1,HE.out.2.2.2⟩
theorem uU(C:Cb st I S fn caps B)(v:aa)(hE: ∀i(hi:i<v.l.length),jr st I S fn caps B v.l[i]):jr st I S fn caps B v:=by
 intro s own A c w hI hs hv hn hB;have b0:=ab (ab (af w) (.cells #[.int .i64 v.kind,.int .i64 v.n,.int .i64 v.x,.string v.s,.slice A v.l.length c] 27)) (.cells #[.func (.func fn) #[] caps] 74);have P0:=xQ ((ah.new w 27 #[.int .i64 v.kind,.int .i64 v.n,.int .i64 v.x,.string v.s,.slice A v.l.length c]).alloc (.cells #[.func (.func fn) #[] caps] 74));have P1:=xQ (ah.at (w:=w.alloc (.cells #[.int .i64 v.kind,.int .i64 v.n,.int .i64 v.x,.string v.s,.slice A v.l.length c] 27)) (g:=w.heap.size+1) (t:=74) (cs:=#[.func (.func fn) #[] caps]) (by simp));have hs0:SS ((w.alloc (.cells #[.int .i64 v.kind,.int .i64 v.n,.int .i64 v.x,.string v.s,.slice A v.l.length c] 27)).alloc (.cells #[.func (.func fn) #[] caps] 74)) S v.l A c:=SS.an hs (fun b h=>b0.block b (C.apart _ _ _ hI b h).1) (fun b h=>h);have hI0:=C.an _ _ _ _ hI b0;have hC:=C.call s own _ v A c hI0 hs0 hv hn (by omega);have hbud:=C.bud s v;have hcf:=C.enter;have hlt:=C.lt _ _ _ hI;obtain⟨q,hq⟩: ∃q,q=st s v:=⟨_,rfl⟩;rw[←hq] at hC hbud;obtain⟨s1,b⟩:=q;have HB1:B s1+bulkVals v.l≤4194304:=by rw[aw] at hB;simp only at hbud;omega
 obtain⟨r,hr⟩: ∃r,r=evG st v s:=⟨_,rfl⟩;rw[←hr];have B0:=xQ b0;clear b0;have HC:=xQ hC;clear hC;have HH:=xQ (xP C (xP hE (xP hs0 (xP hI0 hlt))));clear C hE hs hs0 hI hI0 hlt;have HN:bulkVals v.l≤1048576:=by rw[aw] at hn;omega
 clear hv hn hB hbud;cases b
 ·have hr':r=(s1,false):=by rw[hr];exact ox st hq.symm
  subst hr';clear hr hq;go_enter Tryz.func129,Tryz.ntmps129;go_wp2_with fail;refine HC.out.mono ?_;rintro e w1 ⟨rfl,own1,h1,h2,h3⟩;have HE:=xQ (xP h1 (xP h2 h3));clear h1 h2 h3;go_wp2_with fail;go_ret;exact lT.up ⟨rfl,own1,HE.out.1,HE.out.2.1,HE.out.2.2⟩ B0.out
 ·have hr':r=evL st v.l s1:=by rw[hr];exact qZ st hq.symm
  clear hr hq;obtain⟨s2,b2⟩:=r;have R:=xQ hr';clear hr';cases b2
  all_goals
   go_enter Tryz.func129,Tryz.ntmps129;go_wp2_with fail;refine HC.out.mono ?_;rintro e w1 ⟨rfl,own1,h1,h2,h3⟩;have Q0:=(h3.2.2.2.2 w.heap.size (by simp;omega) (fun hm=>by have:=HH.out.2.2.2.2 _ hm;omega)).trans P0.out;have Q1:=(h3.2.2.2.2 (w.heap.size+1) (by simp) (fun hm=>by have:=HH.out.2.2.2.2 _ hm;omega)).trans P1.out;have hq4:=(ah.c5 Q0).2.2.2.2;have hq1:=ah.c1 Q1;have hs1:SS w1 S v.l A c:=SS.an HH.out.2.2.1 (fun b h=>h3.2.2.2.2 b (HH.out.1.apart _ _ _ HH.out.2.2.2.1 b h).1 (HH.out.1.apart _ _ _ HH.out.2.2.2.1 b h).2) (fun b h=>h);have hlt1:w.heap.size+1<w1.heap.size:=ah.lt Q1;have hC2:=j8 HH.out.1 v.l HH.out.2.1 s1 own1 (w.heap.size+1) A c w1 HN HB1 h1 hs1 hq1 hlt1 (fun hm=>by rcases h2 _ hm with h|h;(·have:=HH.out.2.2.2.2 _ h;omega);·simp at h;omega);rw[←R.out] at hC2;have HE:=xQ (xP hC2 (xP h1 (xP h2 h3)));clear hC2 h1 h2 h3 Q0 Q1 hq1 hs1;go_wp2_with fail;refine HE.out.1.mono ?_;rintro e w2 ⟨rfl,own2,h4,h5,h6⟩;have HF:=xQ (xP h4 (xP h5 h6));clear h4 h5 h6;simp only[Bool.not_false,Bool.not_true];go_wp2_with fail;go_ret;refine lT.up ⟨rfl,own2,HF.out.1,fun b hb=> ?_,HE.out.2.2.2.step HE.out.2.2.1 HF.out.2.2⟩ B0.out;rcases HF.out.2.1 b hb with h|h;·exact HE.out.2.2.1 b h
   ·exact .inr (Nat.le_trans HE.out.2.2.2.2.2.2.1 h)
theorem tL(C:Cb st I S fn caps B)(v:aa):jr st I S fn caps B v:=aa.ind (p:=jr st I S fn caps B) (fun v IH=>uU C v IH) v
end
end
end Go.Proofs.YtodpdjehjllhdaaGreatDoor
