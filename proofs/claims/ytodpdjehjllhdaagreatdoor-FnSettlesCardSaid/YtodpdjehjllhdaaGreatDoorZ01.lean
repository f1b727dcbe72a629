/- Part of a proof: contracts and plain laws. -/
import Derived.Test.YtodpdjehjllhdaaGreatDoorZ00
import Derived.Laws.BytesArg
import Derived.Laws.Strings
import Derived.Laws.AppendOwnNone
import Derived.BigQuiet
import Derived.Deep.QuietTactic
import Derived.Deep.RegionHeld3
import Derived.Deep.CutRange
set_option linter.unusedVariables false
set_option maxRecDepth 100000
set_option maxHeartbeats 20000000
namespace Go.Proofs.YtodpdjehjllhdaaGreatDoor
open Go.RowKit
structure aa where
  kind : Int
  n : Int
  x : Int
  s : ByteArray
  l : List aa
mutual
def aa.same : aa → aa → Bool
  | ⟨k, n, x, s, l⟩, ⟨k', n', x', s', l'⟩ => decide (k = k') && decide (n = n') && decide (x = x') && decide (s = s') && aa.sameL l l'
def aa.sameL : List aa → List aa → Bool
  | [], [] => true
  | a :: l, b :: l' => aa.same a b && aa.sameL l l'
  | _, _ => false
end
mutual
theorem aa.same_eq : ∀ (a b : aa), aa.same a b = true ↔ a = b
  | ⟨k, n, x, s, l⟩, ⟨k', n', x', s', l'⟩ => by
    simp only [aa.same, Bool.and_eq_true, decide_eq_true_eq, aa.sameL_eq l l', aa.mk.injEq, and_assoc]
theorem aa.sameL_eq : ∀ (a b : List aa), aa.sameL a b = true ↔ a = b
  | [], [] => by simp [aa.sameL]
  | [], _ :: _ => by simp [aa.sameL]
  | _ :: _, [] => by simp [aa.sameL]
  | a :: l, b :: l' => by simp only [aa.sameL, Bool.and_eq_true, aa.same_eq a b, aa.sameL_eq l l', List.cons.injEq]
end
instance : DecidableEq aa := fun a b => if h : aa.same a b = true then .isTrue ((aa.same_eq a b).1 h) else .isFalse fun e => h ((aa.same_eq a b).2 e)
def bB(v:aa):Prop:=aX v.kind∧aX v.n∧aX v.x∧v.s.size≤maxLen
mutual
def gh (w : World) : aa → List Nat → List Value → Prop
  | ⟨k, n, x, s, l⟩, F, cs => ∃ A c, cs = [.int .i64 k, .int .i64 n, .int .i64 x, .string s, .slice A l.length c] ∧ (aX k ∧ aX n ∧ aX x ∧ s.size ≤ maxLen) ∧ l.length ≤ c ∧ c ≤ maxLen ∧
      ((l = [] ∧ F = [] ∧ (A = none → c = 0)) ∨ ∃ b off F' xs, A = some ⟨b, off, none⟩ ∧ F = b :: F' ∧ rpVals w l F' xs ∧ aZ w b off xs)
def rpVals (w : World) : List aa → List Nat → List Value → Prop
  | [], F, xs => F = [] ∧ xs = []
  | a :: l, F, xs => ∃ F1 F2 cs ys, F = F1 ++ F2 ∧ xs = cs ++ ys ∧ gh w a F1 cs ∧ rpVals w l F2 ys
end
mutual
theorem gh.an {w w' : World} : ∀ (v : aa) {F : List Nat} {cs : List Value}, gh w v F cs → (∀ b, b ∈ F → w'.heap[b]? = w.heap[b]?) → gh w' v F cs
  | ⟨k, n, x, s, l⟩, F, cs, h, hk => by
    simp only [gh] at h ⊢
    obtain ⟨A, c, h1, h2, h3, h4, h5⟩ := h
    refine ⟨A, c, h1, h2, h3, h4, ?_⟩
    rcases h5 with h5 | ⟨b, off, F', xs, hA, hF, he, hc⟩
    · exact .inl h5
    · subst hF
      exact .inr ⟨b, off, F', xs, hA, rfl, rpVals.an l he fun b hb => hk b (List.mem_cons_of_mem _ hb), hc.an (hk _ (List.mem_cons_self ..))⟩
theorem rpVals.an {w w' : World} : ∀ (l : List aa) {F : List Nat} {xs : List Value}, rpVals w l F xs → (∀ b, b ∈ F → w'.heap[b]? = w.heap[b]?) → rpVals w' l F xs
  | [], _, _, h, _ => by simp only [rpVals] at h ⊢; exact h
  | a :: l, F, xs, h, hk => by
    simp only [rpVals] at h ⊢
    obtain ⟨F1, F2, cs, ys, hF, hx, hr, he⟩ := h
    subst hF
    exact ⟨F1, F2, cs, ys, rfl, hx, gh.an a hr fun b hb => hk b (List.mem_append_left _ hb), rpVals.an l he fun b hb => hk b (List.mem_append_right _ hb)⟩
end
theorem gh.shape{w:World}{v:aa}{F:List Nat}{cs:List Value}(h:gh w v F cs): ∃A c,cs=[.int .i64 v.kind,.int .i64 v.n,.int .i64 v.x,.string v.s,.slice A v.l.length c]:=by
 cases v;simp only[gh] at h;obtain⟨A,c,h1,_⟩:=h;exact⟨A,c,h1⟩
instance : aG aa where
  wd := 5
  rp := fun w F v cs => gh w v F cs
  len := fun h => by obtain ⟨A, c, rfl⟩ := h.shape; rfl
  one := fun h u hu => by obtain ⟨A, c, rfl⟩ := h.shape; simp at hu; rcases hu with rfl | rfl | rfl | rfl | rfl <;> rfl
  an := fun h hk => gh.an _ h hk
theorem gn{w:World}: ∀(l:List aa)(F:List Nat)(xs:List Value),rpVals w l F xs↔aH w l F xs|[],F,xs=>by simp only[rpVals,aH]|a::l,F,xs=>by simp only[rpVals,aH];constructor;(·rintro⟨F1,F2,cs,ys,h1,h2,h3,h4⟩;exact⟨F1,F2,cs,ys,h1,h2,h3,(gn l F2 ys).1 h4⟩);·rintro⟨F1,F2,cs,ys,h1,h2,h3,h4⟩;exact⟨F1,F2,cs,ys,h1,h2,h3,(gn l F2 ys).2 h4⟩
theorem dh{w:World}{v:aa}{F:List Nat}{cs:List Value}:aG.rp w F v cs↔ ∃A c,cs=[.int .i64 v.kind,.int .i64 v.n,.int .i64 v.x,.string v.s,.slice A v.l.length c]∧bB v∧ua w F v.l A c:=by
 show gh w v F cs↔_;obtain⟨k,n,x,s,l⟩:=v;simp only[gh,gn];constructor;·rintro⟨A,c,h1,h2,h3,h4,h5⟩;exact⟨A,c,h1,h2,h3,h4,h5⟩
 ·rintro⟨A,c,h1,h2,h3,h4,h5⟩;exact⟨A,c,h1,h2,h3,h4,h5⟩
theorem RA.xa{w:World}{v:aa}{cs:List Value}(h:RA w v cs): ∃A c,cs=[.int .i64 v.kind,.int .i64 v.n,.int .i64 v.x,.string v.s,.slice A v.l.length c]∧SA w v.l A c∧bB v:=by
 obtain⟨F,hr,hF⟩:=h;obtain⟨A,c,h1,h2,h3⟩:=dh.1 hr;exact⟨A,c,h1,⟨F,h3,hF⟩,h2⟩
theorem RF.val{base:Nat}{w:World}{v:aa}{A:Option Addr}{c:Nat}(hI:bB v)(h:SF base w v.l A c):RF base w v [.int .i64 v.kind,.int .i64 v.n,.int .i64 v.x,.string v.s,.slice A v.l.length c]:=by
 obtain⟨F,h1,h2⟩:=h;exact⟨F,dh.2 ⟨A,c,rfl,hI,h1⟩,h2⟩
theorem SA.cE{w:World}{l:List aa}{A:Option Addr}{c:Nat}(h:SA w l A c){i:Nat}(hi:i<l.length): ∃b off A' c',A=some ⟨b,off,none⟩∧b<w.heap.size∧bB l[i]∧SA w l[i].l A' c'∧w.cell? ⟨b,off+i*5,none⟩=some (.int .i64 l[i].kind)∧w.cell? ⟨b,off+i*5+1,none⟩=some (.int .i64 l[i].n)∧w.cell? ⟨b,off+i*5+1+1,none⟩=some (.int .i64 l[i].x)∧w.cell? ⟨b,off+i*5+1+1+1,none⟩=some (.string l[i].s)∧w.cell? ⟨b,off+i*5+1+1+1+1,none⟩=some (.slice A' l[i].l.length c'):=by
 obtain⟨b,off,cs,rfl,hb,hr,hc⟩:=h.at hi;obtain⟨A',c',rfl,hs,hI⟩:=hr.xa;exact⟨b,off,A',c',rfl,hb,hI,hs,hc.c0,hc.c1,hc.c2,hc.c3,hc.c4⟩
mutual
def bulkVal : aa → Nat
  | ⟨_, _, _, s, l⟩ => s.size + bulkVals l
def bulkVals : List aa → Nat
  | [] => 0
  | a :: l => 1 + bulkVal a + bulkVals l
end
theorem aw(v:aa):bulkVal v=v.s.size+bulkVals v.l:=by
 cases v;rw[bulkVal]
theorem aO(l:List aa):bulkVals l=l.length+(l.map bulkVal).sum:=by
 induction l with|nil=>simp[bulkVals]|cons a l ih=>simp only[bulkVals,List.length_cons,List.map_cons,List.sum_cons,ih];omega
theorem aa.ind{p:aa→Prop}(h: ∀v:aa,(∀i(hi:i<v.l.length),p v.l[i])→p v)(v:aa):p v:=by
 have key: ∀n(v:aa),bulkVal v≤n→p v:=by intro n;induction n with|zero=>intro v hv;refine h v fun i hi=> ?_;rw[aw,aO] at hv;omega|succ n ih=>intro v hv;refine h v fun i hi=>ih _ ?_;have:=dM bulkVal v.l hi;rw[aw,aO] at hv;omega
 exact key _ v (Nat.le_refl _)
def strOf(l:List UInt8):ByteArray:=⟨l.toArray⟩
theorem cL(l:List UInt8):(strOf l).size=l.length:=by
 simp[strOf,ByteArray.size]
theorem SA.ln{w:World}{l:List UInt8}{A:Option Addr}{c:Nat}(h:SA w l A c):(A=none∧l=[])∨ ∃a,A=some a∧ ∀j v,(l.map fun b=>Value.int .u8 (b.toNat:Int))[j]? =some v→w.cell? (a.add j)=some v:=by
 have h':=h;obtain⟨F,⟨h1,h2,h3⟩,hF⟩:=h;rcases h3 with⟨rfl,_⟩|⟨b,off,F',xs,rfl,rfl,he,hc⟩;·cases A with|none=>exact .inl ⟨rfl,rfl⟩|some a=>exact .inr ⟨a,rfl,fun j v hj=>by simp at hj⟩
 ·refine .inr ⟨_,rfl,fun j v hj=> ?_⟩;have hjl:j<l.length:=by have:=(List.getElem?_eq_some_iff.1 hj).1;simpa using this
  have hadd:(⟨b,off,none⟩:Addr).add j=⟨b,off+j,none⟩:=by unfold Addr.add;split;(·rename_i h0;subst h0;rfl);·rfl
  obtain⟨b',off',hA,_,hcell⟩:=h'.byte_at hjl;injection hA with hA;injection hA with e1 e2;subst e1 e2;rw[hadd,hcell];simp[List.getElem?_eq_getElem hjl] at hj;rw[hj]
theorem a6{P:Program}{src dst e:TypeId}(hs:P.underlying src=some (.slice e))(he:P.underlying e=some (.int .u8))(hd:P.underlying dst=some .string){w:World}{l:List UInt8}{A:Option Addr}{c:Nat}(h:SA w l A c):(convert src dst (.slice A l.length c)).run P w=.ok (.string (strOf l)) w:=by
 rcases h.ln with⟨rfl,rfl⟩|⟨a,rfl,hc⟩;·exact run_convert_bytes_nil w src e hs he _ _ dst hd
 ·have hl:=run_loadCells_list (P:=P) w a (l.map fun b=>Value.int .u8 (b.toNat:Int)) hc;have hl':(loadCells a l.length).run P w=.ok ((l.map fun b=>(b.toNat:Int)).map (Value.int .u8)).toArray w:=by simpa[List.map_map,Function.comp_def] using hl
  rw[run_convert_bytes_string w src dst e _ _ c hs he hd,run_bytesToString w _ l.length c _ hl',foldl_push_bytes];simp[strOf,ByteArray.empty,ByteArray.emptyWithCapacity,List.map_map,Function.comp_def];rfl
theorem wJ{a b:ByteArray}:(a.toList==b.toList)=decide (a=b):=by
 rw[ByteArray.toList_eq,ByteArray.toList_eq,Bool.eq_iff_iff];simp only[beq_iff_eq,decide_eq_true_eq];constructor;·intro h;obtain⟨⟨a⟩⟩:=a;obtain⟨⟨b⟩⟩:=b;simp at h;rw[h]
 ·rintro rfl;rfl
section
theorem tN(w:World)(t:TypeId)(cs:Array Value): ∀j u,cs.toList[j]? =some u→(w.alloc (.cells cs t)).cell? ((⟨w.heap.size,0,none⟩:Addr).add j)=some u:=by
 intro j u hj;have e1:(⟨w.heap.size,0,none⟩:Addr).add j=⟨w.heap.size,j,none⟩:=by unfold Addr.add;split;(·rename_i h;subst h;rfl);·simp
 rw[e1,(ah.new w t cs).cell j];simpa using hj
theorem aJ{w:World}{t:TypeId}{g:Nat}(cs:List Value)(h:g=w.heap.size): ∀j u,cs[j]? =some u→(w.alloc (.cells cs.toArray t)).cell? ((⟨g,0,none⟩:Addr).add j)=some u:=by
 subst h;exact tN w t cs.toArray
theorem ah.cells{w:World}{g:Nat}{t:TypeId}{cs:Array Value}(h:ah w g t cs): ∀j u,cs.toList[j]? =some u→w.cell? ((⟨g,0,none⟩:Addr).add j)=some u:=by
 intro j u hj;have e1:(⟨g,0,none⟩:Addr).add j=⟨g,j,none⟩:=by unfold Addr.add;split;(·rename_i h;subst h;rfl);·simp
 rw[e1,h.cell j];simpa using hj
theorem ah.aI{w w':World}{B g:Nat}{t:TypeId}{cs:Array Value}(h:ah w g t cs)(hb:Below B w w')(hg:g<B):ah w' g t cs:=(hb.block g hg).trans h
theorem ah.at{w:World}{g:Nat}{t:TypeId}{cs:Array Value}(h:g=w.heap.size):ah (w.alloc (.cells cs t)) g t cs:=h▸ah.new w t cs
section
variable {α : Type} [aG α]
theorem aC.cX(w:World)(t:TypeId)(base g:Nat)(h:g=w.heap.size)(hb:base≤g):aC (α:=α) (w.alloc (.cells #[] t)) base t (.slice (some ⟨g,0,none⟩) 0 0) []:=by
 subst h;exact⟨[],⟨[],World.ownsRow_lit w #[] 0 hb (by simp) (by simp),⟨rfl,rfl⟩,by simp⟩,b7.nil _ _⟩
theorem cY.ar{w:World}{base:Nat}{t:TypeId}{v:Value}{l:List α}{F:List Nat}(h:cY w base t v l F): ∀g,v.ownBlock=some g→base≤g∧g<w.heap.size:=by
 intro g hg;obtain⟨A,c,rfl⟩:=h.form;cases A with|none=>cases hg|some a=>obtain⟨xs,h1,_⟩:=h;exact h1.lt g hg
theorem aC.ar{w:World}{base:Nat}{t:TypeId}{v:Value}{l:List α}(h:aC w base t v l): ∀g,v.ownBlock=some g→base≤g∧g<w.heap.size:=h.choose_spec.1.ar
theorem px.ar{w:World}{base:Nat}{t:TypeId}{v:Value}{l:List α}(h:px w base t v l): ∀g,v.ownBlock=some g→base≤g∧g<w.heap.size:=h.choose_spec.1.ar
theorem cY.alloc{w:World}{base:Nat}{t:TypeId}{v:Value}{l:List α}{F:List Nat}(h:cY w base t v l F)(hF: ∀b,b∈F→b<w.heap.size)(o:Obj):cY (w.alloc o) base t v l F:=h.below hF (ab (af w) o)
theorem aC.alloc{w:World}{base:Nat}{t:TypeId}{v:Value}{l:List α}(h:aC w base t v l)(o:Obj):aC (w.alloc o) base t v l:=h.below (ab (af w) o)
theorem px.alloc{w:World}{base:Nat}{t:TypeId}{v:Value}{l:List α}(h:px w base t v l)(o:Obj):px (w.alloc o) base t v l:=h.below (ab (af w) o)
theorem aC.drew{w:World}{base:Nat}{t:TypeId}{v:Value}{l:List α}(h:aC w base t v l):aC w.drew base t v l:=h.below (af w).drew
theorem aC.set{w:World}{base:Nat}{t:TypeId}{v:Value}{l:List α}(h:aC w base t v l){p:Addr}(hp:p.block<base)(u:Value):aC (w.setCell p u) base t v l:=by
 obtain⟨F,h1,h2⟩:=h;have hlt:=h1.ar;obtain⟨xs,h3,h4,h5⟩:=h1;refine⟨F,⟨xs,?_,h4.an fun b hb=>Below.heap_setCell w p u b (fun e=>by have:=(h2.2 b hb).1;omega),h5⟩,h2.set hp u⟩;obtain⟨h6,h7⟩:=h3;refine⟨h6,?_⟩;rcases h7 with h7|⟨g,cap,cur,rfl,hb,hh,h8,h9,h10,h11⟩;·exact .inl h7
 ·exact .inr ⟨g,cap,cur,rfl,hb,(Below.heap_setCell w p u g (fun e=>by omega)).trans hh,h8,h9,h10,h11⟩
theorem aC.mono{w:World}{base base':Nat}{t:TypeId}{v:Value}{l:List α}(h:aC w base t v l)(hb:base'≤base):aC w base' t v l:=by
 obtain⟨F,⟨xs,⟨h3,h6⟩,h4,h5⟩,h2⟩:=h;refine⟨F,⟨xs,⟨h3,?_⟩,h4,h5⟩,h2.mono hb⟩;rcases h6 with h7|⟨g,cap,cur,rfl,hb',h⟩;·exact .inl h7
 ·exact .inr ⟨g,cap,cur,rfl,by omega,h⟩
theorem aC.pJ{w:World}{base:Nat}{a:α}{cs:List Value}(h:RF base w a cs)(t:TypeId)(hb:base≤w.heap.size):aC (w.alloc (.cells cs.toArray t)) base t (.slice (some ⟨w.heap.size,0,none⟩) 1 1) [a]:=by
 obtain⟨F,h1,h2⟩:=h;have hlt: ∀b,b∈F→b<w.heap.size:=fun b hb=>(h2.2 b hb).2.lt;refine⟨F,⟨cs,World.ownsRow_lit w cs.toArray 1 hb (by unfold maxLen;omega) (by simp[aG.len h1]),aH.single (aG.an h1 fun b hb=>Below.heap_alloc w _ b (hlt b hb)),fun g hg hm=> ?_⟩,h2.below (ab (af w) _)⟩;simp only[Value.ownBlock,Option.some.injEq] at hg;have:=hlt g hm;omega
variable {P : Program} {W : World} {ops : Array Oper} {rest : List Oper} {o : Oper} {a : Act} {Q : Exit → Act → World → Prop}
theorem bR{W w':World}{base:Nat}{v:Value}(hg:W.grownBy w' v.ownBlock)(hB:base≤W.heap.size)(hr: ∀k,v.ownBlock=some k→base≤k):Below base W w':=Below.grown (Below.refl base W) hg hB hr
def vk(W:World)(base:Nat)(e:TypeId)(v:Value)(l:List α)(v':Value)(w':World):Prop:=aC w' base e v' l∧Below base W w'∧(v'.ownBlock=v.ownBlock∨v'.ownBlock=some W.heap.size)∧W.grownBy w' v.ownBlock
theorem ix(W:World)(row:Option Nat):W.grownBy W row:=⟨rfl,rfl,rfl,Nat.le_refl _,fun _ _ _=>rfl⟩
theorem ah.grown{W w':World}{row:Option Nat}{g:Nat}{t:TypeId}{cs:Array Value}(h:ah W g t cs)(hg:W.grownBy w' row)(hne:row≠some g):ah w' g t cs:=(hg.block g h.lt (fun e=>hne e.symm)).trans h
theorem gv(base:Nat)(t ty e:TypeId)(z:Value)(bytes:Nat)(ht:P.underlying t=some (.slice e))(hinfo:(P.info? e).map (fun i=>(i.zero,i.size,i.bytes))=some (some z,aG.wd α,bytes))(v:Value)(l:List α)(F:List Nat)(hown:cY W base e v l F):(Builtin.append_ #[t,t] ty #[v,.slice none 0 0]).run P W=.ok v W:=by
 obtain⟨i,hi,hz,hsize,hby⟩:=info_parts hinfo;obtain⟨xs,h1,_⟩:=hown;exact run_append_owned_none (P:=P) (w:=W) base t ty e i (aG.wd α) ht hi v l.length xs h1
theorem jn(t ty:TypeId)(base:Nat)(e:TypeId)(z:Value)(bytes:Nat)(ht:P.underlying t=some (.slice e))(hinfo:(P.info? e).map (fun i=>(i.zero,i.size,i.bytes))=some (some z,aG.wd α,bytes))(hzs:z.cells.size=aG.wd α)(hsz:0<aG.wd α)(v:Value)(l ys:List α)(w0:World)(ad:Addr)(c:Nat)(F':List Nat)(news:List Value)(hown:aC w0 base e v l)(hb0:Below w0.heap.size w0 W)(hel:aH W ys F' news)(hr2:b7 w0.heap.size W F')(hcells: ∀j u,news[j]? =some u→W.cell? (ad.add j)=some u)(hbytes:(l.length+ys.length)*bytes≤140737488355328)(h63:l.length+ys.length≤maxLen)(hbase:base≤w0.heap.size): ∃v' w',(Builtin.append_ #[t,t] ty #[v,.slice (some ad) ys.length c]).run P W=.ok v' w'∧vk W base e v (l++ys) v' w':=by
 obtain⟨i,hi,hz,hsize,hby⟩:=info_parts hinfo;obtain⟨F,hC,hFr⟩:=hown;have hlt: ∀b,b∈F→b<w0.heap.size:=fun b hm=>(hFr.2 b hm).2.lt;have hgl:=hC.ar;obtain⟨xs,h1,h2,h3⟩:=hC.below hlt hb0;have hFr':=hFr.below hb0;have hbW:base≤W.heap.size:=Nat.le_trans hbase hb0.size;have hF: ∀g,v.ownBlock=some g→g∉F':=fun g hg hm=>by have:=(hr2.2 g hm).1;have:=(hgl g hg).2;omega
 have hltW: ∀b,b∈F++F'→b<W.heap.size:=fun b hm=>by rcases List.mem_append.1 hm with hm|hm;(·exact(hFr'.2 b hm).2.lt);·exact(hr2.2 b hm).2.lt
 obtain⟨v',w',hrun,h4,h5,_,h6⟩:=run_append_own_at (P:=P) W base t ty e i z (aG.wd α) bytes ht hi hz hsize hby hzs hsz v l.length xs h1 ad ys.length c news hel.len hcells hel.one h63 hbytes hbW;refine⟨v',w',hrun,⟨F++F',cY.grown h2 h3 hel hF hltW h4 h5 h6,?_,fun b hm=> ?_⟩,bR h5 hbW fun k hk=>(hgl k hk).1,h6,h5⟩;·rw[List.nodup_append];exact⟨hFr.1,hr2.1,fun x hx y hy e=>by have:=hlt x hx;have:=(hr2.2 y hy).1;omega⟩
 ·have hne:v.ownBlock≠some b:=fun e=>by rcases List.mem_append.1 hm with hm|hm;(·exact h3 b e hm);·exact hF b e hm
  have hk:=h5.block b (hltW b hm) (fun e=>hne e.symm);rcases List.mem_append.1 hm with hm|hm;·exact⟨(hFr.2 b hm).1,(hFr'.2 b hm).2.an hk⟩
  ·exact⟨by have:=(hr2.2 b hm).1;omega,(hr2.2 b hm).2.an hk⟩
theorem gw(t ty:TypeId)(base:Nat)(e:TypeId)(z:Value)(bytes:Nat)(ht:P.underlying t=some (.slice e))(hinfo:(P.info? e).map (fun i=>(i.zero,i.size,i.bytes))=some (some z,aG.wd α,bytes))(hzs:z.cells.size=aG.wd α)(hsz:0<aG.wd α)(v:Value)(l:List α)(el:α)(cs:List Value)(w0:World)(ad:Addr)(c:Nat)(hown:aC w0 base e v l)(hb0:Below w0.heap.size w0 W)(hr:RF w0.heap.size W el cs)(hcells: ∀j u,cs[j]? =some u→W.cell? (ad.add j)=some u)(hbytes:(l.length+1)*bytes≤140737488355328)(h63:l.length+1≤maxLen)(hbase:base≤w0.heap.size): ∃v' w',(Builtin.append_ #[t,t] ty #[v,.slice (some ad) 1 c]).run P W=.ok v' w'∧vk W base e v (l++[el]) v' w':=by
 obtain⟨F',h1,h2⟩:=hr;exact jn t ty base e z bytes ht hinfo hzs hsz v l [el] w0 ad c F' cs hown hb0 (aH.single h1) h2 hcells hbytes h63 hbase
theorem aK(hP: ∀w F(a:α) cs,aG.rp w F a cs→F=[])(t ty:TypeId)(base:Nat)(e:TypeId)(z:Value)(bytes:Nat)(ht:P.underlying t=some (.slice e))(hinfo:(P.info? e).map (fun i=>(i.zero,i.size,i.bytes))=some (some z,aG.wd α,bytes))(hzs:z.cells.size=aG.wd α)(hsz:0<aG.wd α)(v:Value)(l ys:List α)(A:Option Addr)(c:Nat)(hown:aC W base e v l)(hr:SA W ys A c)(hbytes:(l.length+ys.length)*bytes≤140737488355328)(h63:l.length+ys.length≤maxLen)(hbase:base≤W.heap.size): ∃v' w',(Builtin.append_ #[t,t] ty #[v,.slice A ys.length c]).run P W=.ok v' w'∧vk W base e v (l++ys) v' w':=by
 have hE: ∀(ys:List α)(F:List Nat)(xs:List Value),aH W ys F xs→F=[]:=by intro ys;induction ys with|nil=>intro F xs h;exact h.1|cons a l ih=>rintro F xs ⟨F1,F2,cs,zs,rfl,rfl,h1,h2⟩;rw[hP _ _ _ _ h1,ih _ _ h2];rfl
 obtain⟨F0,⟨hl1,hl2,hl3⟩,hr2⟩:=hr;rcases hl3 with⟨rfl,rfl,hn⟩|⟨b,off,F1,news,rfl,rfl,hel,hc⟩;·cases A with|none=>rw[hn rfl];obtain⟨F,hC,hFr⟩:=hown;exact⟨v,W,gv base t ty e z bytes ht hinfo v l F hC,by rw[List.append_nil];exact⟨F,hC,hFr⟩,Below.refl _ _,.inl rfl,ix _ _⟩|some ad=>exact jn t ty base e z bytes ht hinfo hzs hsz v l [] W ad c [] [] hown (Below.refl _ _) ⟨rfl,rfl⟩ (b7.nil _ _) (fun j u hj=>by simp at hj) hbytes h63 hbase
 ·have hF1:=hE _ _ _ hel;subst hF1;refine jn t ty base e z bytes ht hinfo hzs hsz v l ys W ⟨b,off,none⟩ c [] news hown (Below.refl _ _) hel (b7.nil _ _) (fun j u hj=> ?_) hbytes h63 hbase;have e1:(⟨b,off,none⟩:Addr).add j=⟨b,off+j,none⟩:=by unfold Addr.add;split;(·rename_i h;subst h;rfl);·rfl
  rw[e1];exact hc j u hj
end

section
variable {P : Program} {W : World} {ops : Array Oper} {rest : List Oper} {o : Oper} {a : Act} {Q : Exit → Act → World → Prop} {R : Value → World → Prop}
theorem uQ{K:Act→World→Prop}(s x:Operand)(t:TypeId)(ho:o.op=.call {callee:=.builtin .append,args:=#[s,x],argTypes:=#[t,t]}){v u:Value}(hs:a.eval s=v)(hx:a.eval x=u)(hrun: ∃v' w',(Builtin.append_ #[t,t] o.type #[v,u]).run P W=.ok v' w'∧R v' w')(h: ∀v' w',R v' w'→K (a.put o.dst v') w'):o.wp P a W K Q:=by
 obtain⟨v',w',hr,h1⟩:=hrun;unfold Oper.wp execOp;simp only[ho,resolve,invoke,builtin,Sem.run_bind,Sem.run_pure,Result.andThen_ok,List.map_toArray,List.map_cons,List.map_nil,hs,hx,hr];exact h v' w' h1
theorem az(hgd:o.guard=none)(s x:Operand)(t:TypeId)(ho:o.op=.call {callee:=.builtin .append,args:=#[s,x],argTypes:=#[t,t]}){v u:Value}(hs:a.eval s=v)(hx:a.eval x=u)(hrun: ∃v' w',(Builtin.append_ #[t,t] o.type #[v,u]).run P W=.ok v' w'∧R v' w')(h: ∀v' w',R v' w'→wpList P ops Q rest (a.put o.dst v') w'):wpList P ops Q (o::rest) a W:=wpList_plain hgd fun _ hK=>uQ s x t ho hs hx hrun fun v' w' hR=>hK _ _ (h v' w' hR)
theorem aN{K:Act→World→Prop}{E:Prop}(hgd:o.guard=none)(s x:Operand)(t:TypeId)(ho:o.op=.call {callee:=.builtin .append,args:=#[s,x],argTypes:=#[t,t]}){v u:Value}(hs:a.eval s=v)(hx:a.eval x=u)(hrun: ∃v' w',(Builtin.append_ #[t,t] o.type #[v,u]).run P W=.ok v' w'∧R v' w')(h: ∀v' w',R v' w'→K (a.put o.dst v') w'):if Region.wanted o (yielded ops a.tmps)=true then Oper.wp P o a W K Q else E:=by
 have hw:Region.wanted o (yielded ops a.tmps)=true:=by simp[Region.wanted,hgd]
 rw[if_pos hw];exact uQ s x t ho hs hx hrun h
end
end
def vY(v:aa):Prop:= ∀(A:Option Addr)(c:Nat)(w:World),bulkVal v≤1048576→bB v→SA w v.l A c→Calls Tryz.prog 69 #[.agg #[.int .i64 v.kind,.int .i64 v.n,.int .i64 v.x,.string v.s,.slice A v.l.length c]] w fun e w'=> ∃A' c',e=.returned (.agg #[.int .i64 v.kind,.int .i64 v.n,.int .i64 v.x,.string v.s,.slice A' v.l.length c'])∧SF w.heap.size w' v.l A' c'∧Below w.heap.size w w'
theorem iN(v:aa):vY v:=by
 refine aa.ind (p:=vY) (fun v IH=> ?_) v;intro A c w hn hI hx;have hn1:v.l.length≤1048576:=by rw[aw,aO] at hn;omega
 have hp:Hid (∀k(h:k<v.l.length),bulkVal v.l[k]≤1048576):=fun k h=>by have:=dM bulkVal v.l h;rw[aw,aO] at hn;omega
 have IH':=xQ IH;clear IH hn;have E:=xQ hx;clear hx;have HI:=xQ hI;clear hI;go_enter Tryz.func69,Tryz.ntmps69;go_wp2_with fail;go_loopg[4] v.l.length (fun gk i wr=> ∃(k:Nat) (rv:Value),k≤v.l.length∧i=.int .i64 k∧gk=v.l.length-k∧ah wr w.heap.size 27 #[.int .i64 v.kind,.int .i64 v.n,.int .i64 v.x,.string v.s,.slice A v.l.length c]∧ah wr (w.heap.size+1) 27 #[.int .i64 0,.int .i64 0,.int .i64 0,.string .empty,.slice none 0 0]∧ah wr (w.heap.size+1+1) 27 #[.int .i64 v.kind,.int .i64 v.n,.int .i64 v.x,.string v.s,rv]∧aC wr (w.heap.size+1+1+1) 27 rv (v.l.take k)∧Below w.heap.size w wr);case atStart=>exact⟨0,.slice (some ⟨w.heap.size+1+1+1,0,none⟩) 0 0,by omega,rfl,by omega,(((ah.at rfl).alloc _).alloc _).alloc _,((ah.at (by simp)).alloc _).alloc _,(ah.at (by simp)).alloc _,aC.cX _ _ _ _ (by simp) (by omega),ab (ab (ab (ab (af w) _) _) _) _⟩
 case round=>
  obtain⟨k,rv,hk,rfl,rfl,hP0,hP1,hP2,hown,hbel⟩:=hrel;by_cases hlt:k<v.l.length
  ·obtain⟨b,off,A',c',rfl,hb,hI,hs,k0,k1,k2,k3,k4⟩:=(E.out.below hbel).cE hlt;obtain⟨p0,p1,p2,p3,p4⟩:=hP0.c5;have HS:=xQ (xP hI hs);clear hI hs;go_wp2_with fail;refine(IH'.out k hlt A' c' _ (hp.out k hlt) HS.out.1 HS.out.2).mono ?_;rintro e w1 ⟨A1,c1,rfl,hsf,hb1⟩;have HB:=xQ (xP hown (xP hsf hb1));have Q0:=xQ (hP0.below hb1);have Q1:=xQ (hP1.below hb1);have Q2:=xQ (hP2.below hb1);have hz0:w.heap.size<w1.heap.size:=Q0.out.lt;have hz1:w.heap.size+1<w1.heap.size:=Q1.out.lt;have hz2:w.heap.size+1+1<w1.heap.size:=Q2.out.lt;have f2:=Q2.out.frozen 4;have hwr:w.heap.size+1+1<wr.heap.size:=hP2.lt;have hbel1:=xQ (al hbel hb1);clear hb1 hsf hown hP0 hP1 hP2 p0 p1 p2 p3 p4 k0 k1 k2 k3 k4 hbel;obtain⟨p0,p1,p2,p3,p4⟩:=Q0.out.c5;obtain⟨q0,q1,q2,q3,q4⟩:=Q2.out.c5;have htk:(v.l.take k).length=k:=by rw[List.length_take];omega
   have htk1:(v.l.take (k+1)).length=k+1:=by rw[List.length_take];omega
   go_wp2_with(at_builtin;(refine az rfl _ _ 25 rfl rfl rfl (gw 25 _ (w.heap.size+1+1+1) 27 (.agg #[.int .i64 0,.int .i64 0,.int .i64 0,.string .empty,.slice none 0 0]) 64 Tryz.underlying25 b9 rfl (by decide) rv (v.l.take k) v.l[k] _ wr _ _ HB.out.1 (al HB.out.2.2 (ab (ab (af w1) _) _)) (RF.below (RF.val HS.out.1 HB.out.2.1) (ab (ab (af w1) _) _)) (aJ [_,_,_,_,_] (by simp)) (by rw[htk];omega) (by rw[htk];unfold maxLen;omega) (by omega)) ?_;rintro rv' w2 ⟨ho,hbl,_⟩;rw[←List.take_succ_eq_append_getElem hlt] at ho;obtain⟨Av,cv,rfl⟩:=ho.form;rw[htk1] at ho ⊢;have HO:=xQ (xP ho hbl);have Q2':=xQ (((Q2.out.alloc _).alloc _).aI hbl (by omega));have f2':=Q2'.out.frozen 4;obtain⟨r0,r1,r2,r3,r4⟩:=Q2'.out.c5;clear ho hbl));go_roundg(v.l.length-(k+1));case measure=>omega
   case rel=>
    refine⟨k+1,.slice Av (k+1) cv,by omega,by go_num,rfl,?_,?_,?_,HO.out.1.set (by simp) _,?_⟩;·exact(((Q0.out.alloc _).alloc _).aI HO.out.2 (by omega)).pC (by simp<;>omega) _
    ·exact(((Q1.out.alloc _).alloc _).aI HO.out.2 (by omega)).pC (by simp<;>omega) _
    ·exact Q2'.out.cK 4 _
    ·exact(al hbel1.out (ab (ab (af w1) _) _)).trans (HO.out.2.mono (by omega)) |>.setCell (by simp;omega) _
  ·have e:k=v.l.length:=by omega
   subst e;rw[List.take_length] at hown;obtain⟨Av,cv,rfl⟩:=hown.form;have HO:=xQ (xP hown hbel);clear hown hbel;obtain⟨p0,p1,p2,p3,p4⟩:=hP0.c5;obtain⟨q0,q1,q2,q3,q4⟩:=hP2.c5;obtain⟨r0,r1,r2,r3,r4⟩:=hP1.c5;have hz1:=hP1.lt;have hz2:=hP2.lt;obtain⟨f0,f1,f2,f3,f4⟩:=hP1.f5;clear hP0 hP1 hP2;go_wp2_with fail;refine bodyPost_ret (v:=.agg #[.int .i64 v.kind,.int .i64 v.n,.int .i64 v.x,.string v.s,.slice Av v.l.length cv]) (by simp[results,Tryz.results69,go_sem, *]) rfl ?_;refine⟨Av,cv,rfl,?_,?_⟩;·refine SF.mono (base:=w.heap.size+1+1+1) ?_ (by omega);refine SF.set (SF.set (SF.set (SF.set (SF.set HO.out.1.sf.2 ?_ _) ?_ _) ?_ _) ?_ _) ?_ _;all_goals(simp;try omega)
   ·refine Below.setCell (Below.setCell (Below.setCell (Below.setCell (Below.setCell HO.out.2 ?_ _) ?_ _) ?_ _) ?_ _) ?_ _;all_goals(simp;try omega)
def sT(v:aa)(i:Nat):GStep:=if v.kind=10 then⟨((i/2:Nat):Int),decide (i%2=0)⟩ else⟨i,false⟩
mutual
def pathsG (p : List GStep) : aa → List (List GStep)
  | ⟨k, n, x, s, l⟩ => p :: pathsL p ⟨k, n, x, s, []⟩ 0 l
def pathsL (p : List GStep) (v : aa) (i : Nat) : List aa → List (List GStep)
  | [] => []
  | a :: l => pathsG (p ++ [sT v i]) a ++ pathsL p v (i + 1) l
end
mutual
theorem pathsG_len : ∀ (v : aa) (p : List GStep), (pathsG p v).length ≤ 1 + bulkVal v
  | ⟨k, n, x, s, l⟩, p => by
    rw [pathsG, bulkVal, List.length_cons]
    have := pathsL_len l ⟨k, n, x, s, []⟩ p 0
    omega
theorem pathsL_len : ∀ (l : List aa) (v : aa) (p : List GStep) (i : Nat), (pathsL p v i l).length ≤ bulkVals l
  | [], v, p, i => by simp [pathsL]
  | a :: l, v, p, i => by
    rw [pathsL, bulkVals, List.length_append]
    have := pathsG_len a (p ++ [sT v i])
    have := pathsL_len l v p (i + 1)
    omega
end
theorem gS(l l':List aa):bulkVals (l++l')=bulkVals l+bulkVals l':=by
 rw[aO,aO,aO];simp;omega
mutual
theorem pathsG_deep : ∀ (v : aa) (p q : List GStep), q ∈ pathsG p v → q.length ≤ p.length + bulkVal v
  | ⟨k, n, x, s, l⟩, p, q, h => by
    rw [pathsG] at h
    rw [bulkVal]
    rcases List.mem_cons.1 h with rfl | h
    · omega
    · have := pathsL_deep l ⟨k, n, x, s, []⟩ p 0 q h; omega
theorem pathsL_deep : ∀ (l : List aa) (v : aa) (p : List GStep) (i : Nat) (q : List GStep), q ∈ pathsL p v i l → q.length ≤ p.length + bulkVals l
  | [], v, p, i, q, h => by simp [pathsL] at h
  | a :: l, v, p, i, q, h => by
    rw [pathsL] at h
    rw [bulkVals]
    rcases List.mem_append.1 h with h | h
    · have := pathsG_deep a _ q h; simp at this; omega
    · have := pathsL_deep l v p (i + 1) q h; omega
end
theorem aR(x a b:Int)(w:World):Calls Tryz.prog 141 #[.int .i64 x,.int .i64 a,.int .i64 b] w (cd w (.bool (decide (a≤x∧x≤b)))):=by
 obtain⟨r,hr⟩: ∃r,r=decide (a≤x∧x≤b):=⟨_,rfl⟩;rw[←hr];have R:=xQ hr;clear hr;by_cases h1:a≤x;·by_cases h2:x≤b;all_goals go_enter Tryz.func141,Tryz.ntmps141;go_wp2_with fail;go_ret;exact⟨by rw[R.out];simp[h1,h2],af w⟩
 ·go_enter Tryz.func141,Tryz.ntmps141;go_wp2_with fail;go_ret;exact⟨by rw[R.out,decide_eq_false (by omega)];rfl,af w⟩
theorem bA(x a b:Int)(w:World):Calls Tryz.prog 74 #[.int .i64 x,.int .i64 a,.int .i64 b] w (cd w (.bool (decide (a≤x∧x≤b)))):=by
 obtain⟨r,hr⟩: ∃r,r=decide (a≤x∧x≤b):=⟨_,rfl⟩;rw[←hr];have R:=xQ hr;clear hr;by_cases h1:a≤x;·by_cases h2:x≤b;all_goals go_enter Tryz.func74,Tryz.ntmps74;go_wp2_with fail;go_ret;exact⟨by rw[R.out];simp[h1,h2],af w⟩
 ·go_enter Tryz.func74,Tryz.ntmps74;go_wp2_with fail;go_ret;exact⟨by rw[R.out,decide_eq_false (by omega)];rfl,af w⟩
section
structure Ce (g : Nat) (w w' : World) : Prop where
  low : Below g w w'
  high : ∀ k, g < k → k < w.heap.size → w'.heap[k]? = w.heap[k]?
namespace Ce
variable {g : Nat} {w w' w'' : World}
theorem refl(g:Nat)(w:World):Ce g w w:=⟨Below.refl _ _,fun _ _ _=>rfl⟩
theorem size(h:Ce g w w'):w.heap.size≤w'.heap.size:=h.low.size
theorem trans(h:Ce g w w')(k:Ce g w' w''):Ce g w w'':=⟨h.low.trans k.low,fun i h1 h2=>(k.high i h1 (Nat.lt_of_lt_of_le h2 h.size)).trans (h.high i h1 h2)⟩
theorem of(h:Below w.heap.size w w')(hg:g≤w.heap.size):Ce g w w':=⟨h.mono hg,fun k _ h2=>h.block k h2⟩
theorem heap(h:Ce g w w'){k:Nat}(hk:k≠g)(hl:k<w.heap.size):w'.heap[k]? =w.heap[k]? :=by
 rcases Nat.lt_or_gt_of_ne hk with h1|h1;·exact h.low.block k h1
 ·exact h.high k h1 hl
theorem dc(h:Ce g w w'){b:Nat}{t:TypeId}{cs:Array Value}(hb:ah w b t cs)(hne:b≠g):ah w' b t cs:=(h.heap hne hb.lt).trans hb
theorem below(h:Ce g w w'){n:Nat}(hn:n≤g):Below n w w':=h.low.mono hn
theorem set(h:Ce g w w')(o:Nat)(v:Value):Ce g w (w'.setCell ⟨g,o,none⟩ v):=h.trans ⟨(Below.refl g w').setCell (p:=⟨g,o,none⟩) (Nat.le_refl g) _,fun k h1 _=>Below.heap_setCell _ _ _ _ (by simp;omega)⟩
theorem add(h:Ce g w w')(o:Obj)(hg:g≤w'.heap.size):Ce g w (w'.alloc o):=h.trans (of (ab (af w') o) hg)
theorem drew(h:Ce g w w'):Ce g w w'.drew:=⟨h.low.drew,h.high⟩
theorem ss{α:Type}[aG α](h:Ce g w w'){S:Nat→Prop}{l:List α}{A:Option Addr}{c:Nat}(hs:SS w S l A c)(hS: ∀b,S b→b≠g∧b<w.heap.size):SS w' S l A c:=SS.an hs (fun b hb=>h.heap (hS b hb).1 (hS b hb).2) (fun _ hb=>hb)
end Ce
def dI(w:World)(g:Nat)(code:List UInt8):Prop:= ∃(A:Option Addr) (c i:Nat) (h:Int),ah w g 100 #[.slice A code.length c,.int .i64 i,.int .i64 h]∧i≤code.length∧aX h∧code.length≤1048576∧SS w (fun b=>b<g) code A c
theorem dI.lt{w:World}{g:Nat}{code:List UInt8}(h:dI w g code):g<w.heap.size:=by
 obtain⟨A,c,i,h,hb,_⟩:=h;exact hb.lt
theorem dI.below{w w':World}{g:Nat}{code:List UInt8}(h:dI w g code)(hb:Below w.heap.size w w'):dI w' g code:=by
 have hg:=h.lt;obtain⟨A,c,i,h,h1,h2,h3,h4,h5⟩:=h;exact⟨A,c,i,h,h1.below hb,h2,h3,h4,SS.an h5 (fun b hb'=>hb.block b (by omega)) (fun _ h=>h)⟩
def qo(g:Nat)(code:List UInt8)(lo hi:Int)(w:World)(e:Ending)(w':World):Prop:= ∃k:Int,e=.returned (.int .i64 k)∧lo≤k∧k≤hi∧Ce g w w'∧dI w' g code
theorem jF(y:Int):0≤bits .and .i64 y 255∧bits .and .i64 y 255≤255:=by
 have h2:(BitVec.ofInt 64 ((255:Nat):Int)).toNat=255:=by rw[BitVec.ofInt_natCast,BitVec.toNat_ofNat]
 have h3:bits .and .i64 y ((255:Nat):Int)=IntKind.i64.wrap ((BitVec.ofInt 64 y &&& BitVec.ofInt 64 ((255:Nat):Int)).toNat:Int):=rfl;have h4: ∀T:Nat,T &&& 255=T%256:=fun T=>Nat.and_two_pow_sub_one_eq_mod T 8;show 0≤bits .and .i64 y ((255:Nat):Int)∧bits .and .i64 y ((255:Nat):Int)≤255;rw[h3,BitVec.toNat_and,h2,h4,IntKind.wrap_i64];have h5:(BitVec.ofInt 64 y).toNat%256<256:=Nat.mod_lt _ (by decide);generalize(BitVec.ofInt 64 y).toNat%256=T at h5 ⊢;omega
theorem fg(g:Nat)(code:List UInt8)(w:World)(hc:dI w g code):Calls Tryz.prog 126 #[.pointer (some ⟨g,0,none⟩)] w (qo g code 0 255 w):=by
 obtain⟨A,c,i,h,hb,hi,hh,hl,hs⟩:=hc;obtain⟨q0,q1,q2⟩:=hb.c3;have hg:=hb.lt;have f0:=hb.frozen 0;have f1:=hb.frozen 1;have f2:=hb.frozen 2;have HB:=xQ (xP hb hs);clear hb hs;have H64: ∀y:Int,aX (wrap64 y):=fun y=>by unfold wrap64;exact⟨by omega,by omega⟩
 go_enter Tryz.func126,Tryz.ntmps126;go_wp2_with fail;have hh2:=H64 (wrap64 (h*6364136223846793005)+1442695040888963407);generalize wrap64 (wrap64 (h*6364136223846793005)+1442695040888963407)=h2 at hh2 ⊢;have hb1:=HB.out.1.cK 2 (.int .i64 h2);have hce:=(Ce.refl g w).set 2 (.int .i64 h2);have hs1:=hce.ss HB.out.2 (fun b hb=>⟨by omega,by omega⟩);generalize w.setCell ⟨g,2,none⟩ (.int .i64 h2)=W at hb1 hce hs1 ⊢;clear q0 q1 q2 f0 f1 f2 HB;obtain⟨q0,q1,q2⟩:=hb1.c3;have hgW:=hb1.lt;have f1:=hb1.frozen 1;have HB:=xQ (xP hb1 (xP hce hs1));clear hb1 hce hs1;go_quiet(fail);go_wp2_with fail;have hx:=jF (bits .xor .i64 (h2/8589934592) (h2/140737488355328));generalize bits .and .i64 (bits .xor .i64 (h2/8589934592) (h2/140737488355328)) 255=x at hx ⊢;by_cases hlt:i<code.length
 ·have hlt':(i:Int)<code.length:=by omega
  obtain⟨b,off,rfl,hb',kk⟩:=(show SA W code A c from SS.an HB.out.2.2 (fun _ _=>rfl) (fun b h=>by omega)).byte_at hlt;have hnb:b≠g:=by intro e;obtain⟨F,⟨_,_,h3⟩,hF⟩:=HB.out.2.2;rcases h3 with⟨he,_⟩|⟨b2,off2,F',xs,hA,rfl,_,_⟩;(·rw[he] at hlt;simp at hlt);·injection hA with hA;injection hA with e1 e2;have:=hF b2 (List.mem_cons_self ..);omega
  have hi0:(0:Int)≤i:=by omega
  go_quiet(fail);go_wp2_with fail;go_quiet(fail);go_wp2_with fail;have hx2:=jF (wrap64 (x+wrap64 (code[i].toNat:Int)));generalize bits .and .i64 (wrap64 (x+wrap64 (code[i].toNat:Int))) 255=y at hx2 ⊢;go_ret;refine⟨y,rfl,hx2.1,hx2.2,(HB.out.2.1.trans (Ce.of (below_drewN (af W) _) (by omega))).set 1 _,⟨some ⟨b,off,none⟩,c,i+1,h2,?_,by omega,hh2,hl,?_⟩⟩;·exact(HB.out.1.drewN _).cK 1 _
  ·exact((Ce.of (below_drewN (af W) _) (by omega):Ce g W (W.drewN _)).set 1 _).ss HB.out.2.2 (fun b hb=>⟨by omega,by omega⟩)
 ·have hlt': ¬((i:Int)<code.length):=by omega
  go_quiet(fail);go_wp2_with fail;go_ret;exact⟨x,rfl,hx.1,hx.2,HB.out.2.1.trans ((Ce.of (below_drewN (af W) _) (by omega))),(show dI W g code from⟨A,c,i,h2,HB.out.1,hi,hh2,hl,HB.out.2.2⟩).below (below_drewN (af W) _)⟩
end
end Go.Proofs.YtodpdjehjllhdaaGreatDoor
