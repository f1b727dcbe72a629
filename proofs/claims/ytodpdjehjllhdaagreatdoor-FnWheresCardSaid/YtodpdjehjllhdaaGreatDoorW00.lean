/- Part of a proof: contracts and plain laws. -/
import Derived.WalkKit
import Derived.Below
import Derived.OwnWalk
import Derived.WalkSpells
import Derived.WalkLawsBesides
import Derived.Deep.LoopGhost
import Derived.Deep.OwnRows
import Derived.Deep.AppendLies
import Derived.Deep.Draws
import Derived.Laws.Rows
import Derived.Lib.Hide
import Derived.Maps.AppendAt
set_option linter.unusedVariables false
set_option linter.unusedSimpArgs false
set_option maxRecDepth 100000
set_option maxHeartbeats 20000000
namespace Go.Proofs.YtodpdjehjllhdaaGreatDoor
open Go.RowKit
abbrev AH:=@And.intro
abbrev AJ:=@Lib.hid
section
def aT(n:Int):Prop:= -9223372036854775808≤n∧n≤9223372036854775807
def ba(w:World)(b off:Nat)(cs:List Value):Prop:= ∀j v,cs[j]? =some v→w.cell? ⟨b,off+j,none⟩=some v
theorem ba.al{w w':World}{b off:Nat}{cs:List Value}(h:ba w b off cs)(hb:w'.heap[b]? =w.heap[b]?):ba w' b off cs:=fun j v hj=>(World.cell?_of_block (w:=w) (a:=⟨b,off+j,none⟩) hb).trans (h j v hj)
theorem ba.sub{w:World}{b off:Nat}{xs ys:List Value}{k:Nat}(h:ba w b off xs)(hs: ∀j v,ys[j]? =some v→xs[k+j]? =some v):ba w b (off+k) ys:=fun j v hj=>by have:=h (k+j) v (hs j v hj);rwa[←Nat.add_assoc] at this
theorem ba.lt{w:World}{b off:Nat}{cs:List Value}(h:ba w b off cs)(hc:0<cs.length):b<w.heap.size:=by
 have:=h 0 cs[0] (List.getElem?_eq_getElem hc);exact World.block_lt_of_cell? w _ this
theorem ba.c0{w:World}{b off:Nat}{x:Value}{cs:List Value}(h:ba w b off (x::cs)):w.cell? ⟨b,off,none⟩=some x:=h 0 x rfl
theorem ba.c1{w:World}{b off:Nat}{x0 x:Value}{cs:List Value}(h:ba w b off (x0::x::cs)):w.cell? ⟨b,off+1,none⟩=some x:=h 1 x rfl
theorem ba.c2{w:World}{b off:Nat}{x0 x1 x:Value}{cs:List Value}(h:ba w b off (x0::x1::x::cs)):w.cell? ⟨b,off+1+1,none⟩=some x:=h 2 x rfl
theorem ba.c3{w:World}{b off:Nat}{x0 x1 x2 x:Value}{cs:List Value}(h:ba w b off (x0::x1::x2::x::cs)):w.cell? ⟨b,off+1+1+1,none⟩=some x:=h 3 x rfl
theorem ba.c4{w:World}{b off:Nat}{x0 x1 x2 x3 x:Value}{cs:List Value}(h:ba w b off (x0::x1::x2::x3::x::cs)):w.cell? ⟨b,off+1+1+1+1,none⟩=some x:=h 4 x rfl
class aD (α : Type) where
  wd : Nat
  rp : World → List Nat → α → List Value → Prop
  len : ∀ {w F a cs}, rp w F a cs → cs.length = wd
  one : ∀ {w F a cs}, rp w F a cs → ∀ u ∈ cs, u.oneCell' = true
  al : ∀ {w w' F a cs}, rp w F a cs → (∀ b, b ∈ F → w'.heap[b]? = w.heap[b]?) → rp w' F a cs
instance : aD Int where
  wd := 1
  rp := fun _ F n cs => F = [] ∧ cs = [.int .i64 n] ∧ aT n
  len := by rintro _ _ _ _ ⟨_, rfl, _⟩; rfl
  one := by rintro _ _ _ _ ⟨_, rfl, _⟩ u hu; simp at hu; subst hu; rfl
  al := fun h _ => h
instance : aD Bool where
  wd := 1
  rp := fun _ F b cs => F = [] ∧ cs = [.bool b]
  len := by rintro _ _ _ _ ⟨_, rfl⟩; rfl
  one := by rintro _ _ _ _ ⟨_, rfl⟩ u hu; simp at hu; subst hu; rfl
  al := fun h _ => h
instance : aD UInt8 where
  wd := 1
  rp := fun _ F b cs => F = [] ∧ cs = [.int .u8 (b.toNat : Int)]
  len := by rintro _ _ _ _ ⟨_, rfl⟩; rfl
  one := by rintro _ _ _ _ ⟨_, rfl⟩ u hu; simp at hu; subst hu; rfl
  al := fun h _ => h
instance : aD ByteArray where
  wd := 1
  rp := fun _ F s cs => F = [] ∧ cs = [.string s] ∧ s.size ≤ maxLen
  len := by rintro _ _ _ _ ⟨_, rfl, _⟩; rfl
  one := by rintro _ _ _ _ ⟨_, rfl, _⟩ u hu; simp at hu; subst hu; rfl
  al := fun h _ => h
section
variable {α : Type} [aD α]
def aL(w:World):List α→List Nat→List Value→Prop|[],F,xs=>F=[]∧xs=[]|a::l,F,xs=> ∃F1 F2 cs ys,F=F1++F2∧xs=cs++ys∧aD.rp w F1 a cs∧aL w l F2 ys
theorem aL.len{w:World}: ∀{l:List α}{F:List Nat}{xs:List Value},aL w l F xs→xs.length=l.length*aD.wd α|[],_,_,⟨_,h⟩=>by subst h;simp|_::l,_,_,⟨_,_,_,_,_,hx,hr,he⟩=>by subst hx;rw[List.length_append,aD.len hr,he.len,List.length_cons,Nat.add_mul,Nat.one_mul,Nat.add_comm]
theorem aL.one{w:World}: ∀{l:List α}{F:List Nat}{xs:List Value},aL w l F xs→ ∀u∈xs,u.oneCell'=true|[],_,_,⟨_,h⟩=>by subst h;simp|_::l,_,_,⟨_,_,_,_,_,hx,hr,he⟩=>by subst hx;intro u hu;rcases List.mem_append.1 hu with hu|hu;(·exact aD.one hr u hu);·exact he.one u hu
theorem aL.al{w w':World}: ∀{l:List α}{F:List Nat}{xs:List Value},aL w l F xs→(∀b,b∈F→w'.heap[b]? =w.heap[b]?)→aL w' l F xs|[],_,_,h,_=>h|_::l,_,_,⟨F1,F2,cs,ys,hF,hx,hr,he⟩,hk=>by subst hF;exact⟨F1,F2,cs,ys,rfl,hx,aD.al hr fun b hb=>hk b (List.mem_append_left _ hb),he.al fun b hb=>hk b (List.mem_append_right _ hb)⟩
theorem aL.append{w:World}: ∀{l l':List α}{F F':List Nat}{xs xs':List Value},aL w l F xs→aL w l' F' xs'→aL w (l++l') (F++F') (xs++xs')|[],_,_,_,_,_,⟨h1,h2⟩,h'=>by subst h1 h2;exact h'|a::l,_,_,_,_,_,⟨F1,F2,cs,ys,hF,hx,hr,he⟩,h'=>by subst hF hx;exact⟨F1,_,cs,_,by rw[List.append_assoc],by rw[List.append_assoc],hr,he.append h'⟩
theorem aL.single{w:World}{a:α}{F:List Nat}{cs:List Value}(h:aD.rp w F a cs):aL w [a] F cs:=⟨F,[],cs,[],by simp,by simp,h,rfl,rfl⟩
theorem aL.snoc{w:World}{l:List α}{a:α}{F F':List Nat}{xs cs:List Value}(h:aL w l F xs)(h':aD.rp w F' a cs):aL w (l++[a]) (F++F') (xs++cs):=h.append (aL.single h')
theorem aL.get{w:World}: ∀{l:List α}{F:List Nat}{xs:List Value},aL w l F xs→ ∀i(hi:i<l.length),∃F' cs,aD.rp w F' l[i] cs∧(∀b,b∈F'→b∈F)∧ ∀j v,cs[j]? =some v→xs[i*aD.wd α+j]? =some v|[],_,_,_,i,hi=>absurd hi (by simp)|a::l,_,_,⟨F1,F2,cs,ys,hF,hx,hr,he⟩,i,hi=>by subst hF hx;cases i with|zero=>refine⟨F1,cs,hr,fun b hb=>List.mem_append_left _ hb,fun j v hj=> ?_⟩;rw[Nat.zero_mul,Nat.zero_add,List.getElem?_append_left (List.getElem?_eq_some_iff.1 hj).1];exact hj|succ i=>obtain⟨F',cs',hr',hs,hc⟩:=he.get i (by simpa using hi);refine⟨F',cs',hr',fun b hb=>List.mem_append_right _ (hs b hb),fun j v hj=> ?_⟩;have hl:cs.length=aD.wd α:=aD.len hr;rw[List.getElem?_append_right (by rw[hl,Nat.add_mul];omega),←hc j v hj];congr 1;rw[hl,Nat.add_mul];omega
theorem aL.split{w:World}: ∀{l l':List α}{F:List Nat}{xs:List Value},aL w (l++l') F xs→ ∃F1 F2 xs1 xs2,F=F1++F2∧xs=xs1++xs2∧aL w l F1 xs1∧aL w l' F2 xs2|[],_,F,xs,h=>⟨[],F,[],xs,rfl,rfl,⟨rfl,rfl⟩,h⟩|a::l,l',_,_,⟨F1,F2,cs,ys,hF,hx,hr,he⟩=>by subst hF hx;obtain⟨G1,G2,y1,y2,h1,h2,h3,h4⟩:=aL.split (l:=l) (l':=l') he;subst h1 h2;exact⟨F1++G1,G2,cs++y1,y2,by rw[List.append_assoc],by rw[List.append_assoc],⟨F1,G1,cs,y1,rfl,rfl,hr,h3⟩,h4⟩
def uo(w:World)(F:List Nat)(l:List α)(A:Option Addr)(c:Nat):Prop:=l.length≤c∧c≤maxLen∧((l=[]∧F=[]∧(A=none→c=0))∨ ∃b off F' xs,A=some ⟨b,off,none⟩∧F=b::F'∧aL w l F' xs∧ba w b off xs)
theorem uo.al{w w':World}{F:List Nat}{l:List α}{A:Option Addr}{c:Nat}(h:uo w F l A c)(hk: ∀b,b∈F→w'.heap[b]? =w.heap[b]?):uo w' F l A c:=by
 obtain⟨h1,h2,h3⟩:=h;refine⟨h1,h2,?_⟩;rcases h3 with h3|⟨b,off,F',xs,hA,hF,he,hc⟩;·exact .inl h3
 ·subst hF;exact .inr ⟨b,off,F',xs,hA,rfl,he.al fun b hb=>hk b (List.mem_cons_of_mem _ hb),hc.al (hk _ (List.mem_cons_self ..))⟩
instance : aD (List α) where
  wd := 1
  rp := fun w F l cs => ∃ A c, cs = [.slice A l.length c] ∧ uo w F l A c
  len := by rintro _ _ _ _ ⟨_, _, rfl, _⟩; rfl
  one := by rintro _ _ _ _ ⟨_, _, rfl, _⟩ u hu; simp at hu; subst hu; rfl
  al := by rintro _ _ _ _ _ ⟨A, c, rfl, h⟩ hk; exact ⟨A, c, rfl, h.al hk⟩
def RS(w:World)(S:Nat→Prop)(a:α)(cs:List Value):Prop:= ∃F,aD.rp w F a cs∧ ∀b,b∈F→S b
def SS(w:World)(S:Nat→Prop)(l:List α)(A:Option Addr)(c:Nat):Prop:= ∃F,uo w F l A c∧ ∀b,b∈F→S b
def RA(w:World)(a:α)(cs:List Value):Prop:=RS w (·<w.heap.size) a cs
def SA(w:World)(l:List α)(A:Option Addr)(c:Nat):Prop:=SS w (·<w.heap.size) l A c
theorem RS.al{w w':World}{S S':Nat→Prop}{a:α}{cs:List Value}(h:RS w S a cs)(hk: ∀b,S b→w'.heap[b]? =w.heap[b]?)(hs: ∀b,S b→S' b):RS w' S' a cs:=let⟨F,h1,h2⟩:=h;⟨F,aD.al h1 fun b hb=>hk b (h2 b hb),fun b hb=>hs b (h2 b hb)⟩
theorem SS.al{w w':World}{S S':Nat→Prop}{l:List α}{A:Option Addr}{c:Nat}(h:SS w S l A c)(hk: ∀b,S b→w'.heap[b]? =w.heap[b]?)(hs: ∀b,S b→S' b):SS w' S' l A c:=let⟨F,h1,h2⟩:=h;⟨F,h1.al fun b hb=>hk b (h2 b hb),fun b hb=>hs b (h2 b hb)⟩
theorem RA.below{w w':World}{a:α}{cs:List Value}(h:RA w a cs)(hb:Below w.heap.size w w'):RA w' a cs:=RS.al h (fun b h=>hb.block b h) (fun b h=>Nat.lt_of_lt_of_le h hb.size)
theorem SA.below{w w':World}{l:List α}{A:Option Addr}{c:Nat}(h:SA w l A c)(hb:Below w.heap.size w w'):SA w' l A c:=SS.al h (fun b h=>hb.block b h) (fun b h=>Nat.lt_of_lt_of_le h hb.size)
theorem RA.drew{w:World}{a:α}{cs:List Value}(h:RA w a cs):RA w.drew a cs:=RS.al h (fun b h=>rfl) (fun b h=>h)
theorem SA.drew{w:World}{l:List α}{A:Option Addr}{c:Nat}(h:SA w l A c):SA w.drew l A c:=SS.al h (fun b h=>rfl) (fun b h=>h)
theorem SA.drewN{w:World}{l:List α}{A:Option Addr}{c:Nat}(h:SA w l A c)(n:Nat):SA (w.drewN n) l A c:=SS.al h (fun b h=>rfl) (fun b h=>h)
theorem RA.sa{w:World}{l:List α}{cs:List Value}(h:RA w l cs): ∃A c,cs=[.slice A l.length c]∧SA w l A c:=let⟨F,⟨A,c,h1,h2⟩,h3⟩:=h;⟨A,c,h1,F,h2,h3⟩
theorem SA.len{w:World}{l:List α}{A:Option Addr}{c:Nat}(h:SA w l A c):l.length≤c∧c≤maxLen:=let⟨_,h1,_⟩:=h;⟨h1.1,h1.2.1⟩
theorem SA.at{w:World}{l:List α}{A:Option Addr}{c:Nat}(h:SA w l A c){i:Nat}(hi:i<l.length): ∃b off cs,A=some ⟨b,off,none⟩∧b<w.heap.size∧RA w l[i] cs∧ba w b (off+i*aD.wd α) cs:=by
 obtain⟨F,⟨h1,h2,h3⟩,hF⟩:=h;rcases h3 with⟨rfl,_⟩|⟨b,off,F',xs,hA,rfl,he,hc⟩;·simp at hi
 ·obtain⟨F1,cs,hr,hs,hx⟩:=he.get i hi;exact⟨b,off,cs,hA,hF b (List.mem_cons_self ..),⟨F1,hr,fun b hb=>hF b (List.mem_cons_of_mem _ (hs b hb))⟩,hc.sub hx⟩
end
theorem SA.byte_at{w:World}{l:List UInt8}{A:Option Addr}{c:Nat}(h:SA w l A c){i:Nat}(hi:i<l.length): ∃b off,A=some ⟨b,off,none⟩∧b<w.heap.size∧w.cell? ⟨b,off+i,none⟩=some (.int .u8 (l[i].toNat:Int)):=by
 obtain⟨b,off,cs,rfl,hb,⟨F,⟨_,rfl⟩,_⟩,hc⟩:=h.at hi;exact⟨b,off,rfl,hb,by simpa[aD.wd] using hc.c0⟩
theorem ab{a w:World}(h:Below a.heap.size a w)(o:Obj):Below a.heap.size a (w.alloc o):=h.alloc h.size o
theorem ak{a w w':World}(h:Below a.heap.size a w)(h':Below w.heap.size w w'):Below a.heap.size a w':=h.trans (h'.mono h.size)
theorem ae(a:World):Below a.heap.size a a:=Below.refl _ _
theorem ig{W w1:World}(hb:Below W.heap.size W w1):(∀b o,b<W.heap.size→w1.cell? ⟨b,o,none⟩=W.cell? ⟨b,o,none⟩)∧(∀b o,b<W.heap.size→w1.frozen? ⟨b,o,none⟩=W.frozen? ⟨b,o,none⟩):=⟨fun b o h=>hb.cell (p:=⟨b,o,none⟩) h,fun b o h=>hb.frozen (p:=⟨b,o,none⟩) h⟩
def ai(w:World)(g:Nat)(t:TypeId)(cs:Array Value):Prop:=w.heap[g]? =some (.cells cs t (0,0))
section
variable {w w' : World} {g : Nat} {t : TypeId} {cs : Array Value}
theorem ai.lt(h:ai w g t cs):g<w.heap.size:=by
 rcases Nat.lt_or_ge g w.heap.size with hlt|hge;·exact hlt
 ·unfold ai at h;rw[Array.getElem?_eq_none hge] at h;cases h
theorem ai.cell(h:ai w g t cs)(i:Nat):w.cell? ⟨g,i,none⟩=cs[i]? :=cell_of_row w g i cs t (0,0) h
theorem ai.frozen(h:ai w g t cs)(i:Nat):w.frozen? ⟨g,i,none⟩=false:=by
 unfold ai at h;simp[World.frozen?,h]
theorem ai.new(w:World)(t:TypeId)(cs:Array Value):ai (w.alloc (.cells cs t)) w.heap.size t cs:=heap_alloc_new w _
theorem ai.drew(h:ai w g t cs):ai w.drew g t cs:=h
theorem ai.drewN(h:ai w g t cs)(n:Nat):ai (w.drewN n) g t cs:=h
theorem ai.alloc(h:ai w g t cs)(o:Obj):ai (w.alloc o) g t cs:=(Below.heap_alloc w o g h.lt).trans h
theorem ai.cF(h:ai w g t cs)(i:Nat)(u:Value):ai (w.setCell ⟨g,i,none⟩ u) g t (cs.setIfInBounds i u):=by
 unfold ai at h ⊢;simp[World.setCell,Array.getElem?_modify,h]
theorem ai.nr(h:ai w g t cs){p:Addr}(hp:g≠p.block)(u:Value):ai (w.setCell p u) g t cs:=(Below.heap_setCell w p u g hp).trans h
theorem ai.below(h:ai w g t cs)(hb:Below w.heap.size w w'):ai w' g t cs:=(hb.block g h.lt).trans h
theorem ai.c1{a:Value}(h:ai w g t #[a]):w.cell? ⟨g,0,none⟩=some a:=h.cell 0
theorem ai.c2{a b:Value}(h:ai w g t #[a,b]):w.cell? ⟨g,0,none⟩=some a∧w.cell? ⟨g,1,none⟩=some b:=⟨h.cell 0,h.cell 1⟩
theorem ai.c3{a b c:Value}(h:ai w g t #[a,b,c]):w.cell? ⟨g,0,none⟩=some a∧w.cell? ⟨g,1,none⟩=some b∧w.cell? ⟨g,2,none⟩=some c:=⟨h.cell 0,h.cell 1,h.cell 2⟩
theorem ai.c5{a b c d e:Value}(h:ai w g t #[a,b,c,d,e]):w.cell? ⟨g,0,none⟩=some a∧w.cell? ⟨g,1,none⟩=some b∧w.cell? ⟨g,2,none⟩=some c∧w.cell? ⟨g,3,none⟩=some d∧w.cell? ⟨g,4,none⟩=some e:=⟨h.cell 0,h.cell 1,h.cell 2,h.cell 3,h.cell 4⟩
theorem ai.z5{a b c d e:Value}(h:ai w g t #[a,b,c,d,e]):w.frozen? ⟨g,0,none⟩=false∧w.frozen? ⟨g,1,none⟩=false∧w.frozen? ⟨g,2,none⟩=false∧w.frozen? ⟨g,3,none⟩=false∧w.frozen? ⟨g,4,none⟩=false∧w.cell? ⟨g,0,none⟩=some a∧w.cell? ⟨g,1,none⟩=some b∧w.cell? ⟨g,2,none⟩=some c∧w.cell? ⟨g,3,none⟩=some d∧w.cell? ⟨g,4,none⟩=some e∧g<w.heap.size:=⟨h.frozen 0,h.frozen 1,h.frozen 2,h.frozen 3,h.frozen 4,h.cell 0,h.cell 1,h.cell 2,h.cell 3,h.cell 4,h.lt⟩
theorem ai.f5(h:ai w g t cs):w.frozen? ⟨g,0,none⟩=false∧w.frozen? ⟨g,1,none⟩=false∧w.frozen? ⟨g,2,none⟩=false∧w.frozen? ⟨g,3,none⟩=false∧w.frozen? ⟨g,4,none⟩=false:=⟨h.frozen 0,h.frozen 1,h.frozen 2,h.frozen 3,h.frozen 4⟩
end

def Plain(w:World)(b:Nat):Prop:= ∃cs t,w.heap[b]? =some (.cells cs t (0,0))
theorem Plain.lt{w:World}{b:Nat}(h:Plain w b):b<w.heap.size:=by
 obtain⟨cs,t,h⟩:=h;rcases Nat.lt_or_ge b w.heap.size with hlt|hge;·exact hlt
 ·rw[Array.getElem?_eq_none hge] at h;cases h
theorem Plain.al{w w':World}{b:Nat}(h:Plain w b)(hk:w'.heap[b]? =w.heap[b]?):Plain w' b:=let⟨cs,t,h⟩:=h;⟨cs,t,hk.trans h⟩
def bL(base:Nat)(w:World)(F:List Nat):Prop:=F.Nodup∧ ∀b,b∈F→base≤b∧Plain w b
theorem bL.nil(base:Nat)(w:World):bL base w []:=⟨List.nodup_nil,by simp⟩
theorem bL.al{base:Nat}{w w':World}{F:List Nat}(h:bL base w F)(hk: ∀b,b∈F→w'.heap[b]? =w.heap[b]?):bL base w' F:=⟨h.1,fun b hb=>⟨(h.2 b hb).1,(h.2 b hb).2.al (hk b hb)⟩⟩
theorem bL.below{base:Nat}{w w':World}{F:List Nat}(h:bL base w F)(hb:Below w.heap.size w w'):bL base w' F:=h.al fun b hm=>hb.block b (h.2 b hm).2.lt
theorem bL.mono{base base':Nat}{w:World}{F:List Nat}(h:bL base w F)(hb:base'≤base):bL base' w F:=⟨h.1,fun b hm=>⟨Nat.le_trans hb (h.2 b hm).1,(h.2 b hm).2⟩⟩
section
variable {α : Type} [aD α]
def RF(base:Nat)(w:World)(a:α)(cs:List Value):Prop:= ∃F,aD.rp w F a cs∧bL base w F
def SF(base:Nat)(w:World)(l:List α)(A:Option Addr)(c:Nat):Prop:= ∃F,uo w F l A c∧bL base w F
theorem RF.ra{base:Nat}{w:World}{a:α}{cs:List Value}(h:RF base w a cs):RA w a cs:=let⟨F,h1,h2⟩:=h;⟨F,h1,fun b hb=>(h2.2 b hb).2.lt⟩
theorem SF.sa{base:Nat}{w:World}{l:List α}{A:Option Addr}{c:Nat}(h:SF base w l A c):SA w l A c:=let⟨F,h1,h2⟩:=h;⟨F,h1,fun b hb=>(h2.2 b hb).2.lt⟩
theorem RF.below{base:Nat}{w w':World}{a:α}{cs:List Value}(h:RF base w a cs)(hb:Below w.heap.size w w'):RF base w' a cs:=let⟨F,h1,h2⟩:=h;⟨F,aD.al h1 fun b hm=>hb.block b (h2.2 b hm).2.lt,h2.below hb⟩
theorem SF.below{base:Nat}{w w':World}{l:List α}{A:Option Addr}{c:Nat}(h:SF base w l A c)(hb:Below w.heap.size w w'):SF base w' l A c:=let⟨F,h1,h2⟩:=h;⟨F,h1.al fun b hm=>hb.block b (h2.2 b hm).2.lt,h2.below hb⟩
theorem RF.mono{base base':Nat}{w:World}{a:α}{cs:List Value}(h:RF base w a cs)(hb:base'≤base):RF base' w a cs:=let⟨F,h1,h2⟩:=h;⟨F,h1,h2.mono hb⟩
theorem SF.mono{base base':Nat}{w:World}{l:List α}{A:Option Addr}{c:Nat}(h:SF base w l A c)(hb:base'≤base):SF base' w l A c:=let⟨F,h1,h2⟩:=h;⟨F,h1,h2.mono hb⟩
theorem bL.set{base:Nat}{w:World}{F:List Nat}(h:bL base w F){p:Addr}(hp:p.block<base)(u:Value):bL base (w.setCell p u) F:=h.al fun b hm=>Below.heap_setCell w p u b (fun e=>by have:=(h.2 b hm).1;omega)
theorem RF.set{base:Nat}{w:World}{a:α}{cs:List Value}(h:RF base w a cs){p:Addr}(hp:p.block<base)(u:Value):RF base (w.setCell p u) a cs:=let⟨F,h1,h2⟩:=h;⟨F,aD.al h1 fun b hm=>Below.heap_setCell w p u b (fun e=>by have:=(h2.2 b hm).1;omega),h2.set hp u⟩
theorem SF.set{base:Nat}{w:World}{l:List α}{A:Option Addr}{c:Nat}(h:SF base w l A c){p:Addr}(hp:p.block<base)(u:Value):SF base (w.setCell p u) l A c:=let⟨F,h1,h2⟩:=h;⟨F,h1.al fun b hm=>Below.heap_setCell w p u b (fun e=>by have:=(h2.2 b hm).1;omega),h2.set hp u⟩
theorem SF.rf{base:Nat}{w:World}{l:List α}{A:Option Addr}{c:Nat}(h:SF base w l A c):RF base w l [.slice A l.length c]:=let⟨F,h1,h2⟩:=h;⟨F,⟨A,c,rfl,h1⟩,h2⟩
theorem RF.sf{base:Nat}{w:World}{l:List α}{cs:List Value}(h:RF base w l cs): ∃A c,cs=[.slice A l.length c]∧SF base w l A c:=let⟨F,⟨A,c,h1,h2⟩,h3⟩:=h;⟨A,c,h1,F,h2,h3⟩
def bl(w:World)(g off:Nat):List Value→World|[]=>w|c::cs=>bl (w.setCell ⟨g,off,none⟩ c) g (off+1) cs
def c7(w:World)(base:Nat)(t:TypeId)(v:Value)(l:List α)(F:List Nat):Prop:= ∃xs,w.ownsRow base t (aD.wd α) v l.length xs∧aL w l F xs∧ ∀g,v.ownBlock=some g→g∉F
def ay(w:World)(base:Nat)(t:TypeId)(v:Value)(l:List α):Prop:= ∃F,c7 w base t v l F∧bL base w F
def gI(w:World)(base:Nat)(t:TypeId)(v:Value)(l:List α):Prop:= ∃F,c7 w base t v l F∧ ∀b,b∈F→b<w.heap.size
theorem oZ{w w':World}{base:Nat}{t:TypeId}{size n:Nat}{v:Value}{xs:List Value}(h:w.ownsRow base t size v n xs)(hb:Below w.heap.size w w'):w'.ownsRow base t size v n xs:=h.kept (row:=none) ⟨hb.os,hb.tape,hb.output,hb.size,fun k hk _=>hb.block k hk⟩ (by cases h':v.ownBlock<;>simp)
theorem c7.below{w w':World}{base:Nat}{t:TypeId}{v:Value}{l:List α}{F:List Nat}(h:c7 w base t v l F)(hF: ∀b,b∈F→b<w.heap.size)(hb:Below w.heap.size w w'):c7 w' base t v l F:=let⟨xs,h1,h2,h3⟩:=h;⟨xs,oZ h1 hb,h2.al fun b hm=>hb.block b (hF b hm),h3⟩
theorem ay.below{w w':World}{base:Nat}{t:TypeId}{v:Value}{l:List α}(h:ay w base t v l)(hb:Below w.heap.size w w'):ay w' base t v l:=let⟨F,h1,h2⟩:=h;⟨F,h1.below (fun b hm=>(h2.2 b hm).2.lt) hb,h2.below hb⟩
theorem gI.below{w w':World}{base:Nat}{t:TypeId}{v:Value}{l:List α}(h:gI w base t v l)(hb:Below w.heap.size w w'):gI w' base t v l:=let⟨F,h1,h2⟩:=h;⟨F,h1.below h2 hb,fun b hm=>Nat.lt_of_lt_of_le (h2 b hm) hb.size⟩
theorem ay.a{w:World}{base:Nat}{t:TypeId}{v:Value}{l:List α}(h:ay w base t v l):gI w base t v l:=let⟨F,h1,h2⟩:=h;⟨F,h1,fun b hm=>(h2.2 b hm).2.lt⟩
theorem ay.nz(w:World)(base:Nat)(t:TypeId):ay (α:=α) w base t (.slice none 0 0) []:=⟨[],⟨[],World.ownsRow_nil w base t _,⟨rfl,rfl⟩,by simp⟩,bL.nil _ _⟩
theorem c7.form{w:World}{base:Nat}{t:TypeId}{v:Value}{l:List α}{F:List Nat}(h:c7 w base t v l F): ∃A c,v=.slice A l.length c:=by
 obtain⟨xs,⟨_,h1⟩,_⟩:=h;rcases h1 with⟨rfl,hn⟩|⟨g,cap,cur,rfl,_⟩;·exact⟨none,0,by rw[hn]⟩
 ·exact⟨_,_,rfl⟩
theorem ay.form{w:World}{base:Nat}{t:TypeId}{v:Value}{l:List α}(h:ay w base t v l): ∃A c,v=.slice A l.length c:=h.choose_spec.1.form
theorem gI.form{w:World}{base:Nat}{t:TypeId}{v:Value}{l:List α}(h:gI w base t v l): ∃A c,v=.slice A l.length c:=h.choose_spec.1.form
theorem c7.zG{w:World}{base:Nat}{t:TypeId}{A:Option Addr}{n c:Nat}{l:List α}{F:List Nat}(h:c7 w base t (.slice A n c) l F):n=l.length∧ ∃F',uo w F' l A c∧(F'=[]∨ ∃g,A=some ⟨g,0,none⟩∧F'=g::F∧base≤g∧Plain w g∧g∉F):=by
 obtain⟨xs,hown,he,hg⟩:=h;have hown':=hown;obtain⟨h0,h1⟩:=hown';rcases h1 with⟨hv,hn⟩|⟨g,cap,cur,hv,hb,hh,hn,hm,hs,ht⟩;·injection hv with e1 e2 e3;subst e1 e2 e3;have:l=[]:=List.eq_nil_of_length_eq_zero hn;subst this;exact⟨rfl,[],⟨by simp,by simp,.inl ⟨rfl,rfl,fun _=>rfl⟩⟩,.inl rfl⟩
 ·injection hv with e1 e2 e3;subst e1 e2 e3;refine⟨rfl,g::F,⟨hn,hm,.inr ⟨g,0,F,xs,rfl,rfl,he,fun j v hj=> ?_⟩⟩,.inr ⟨g,rfl,rfl,hb,⟨_,_,hh⟩,hg g rfl⟩⟩;have hl:j<xs.length:=(List.getElem?_eq_some_iff.1 hj).1;rw[Nat.zero_add,hown.cellAt j (by rw[←h0];exact hl)];exact hj
theorem ay.sf{w:World}{base:Nat}{t:TypeId}{A:Option Addr}{n c:Nat}{l:List α}(h:ay w base t (.slice A n c) l):n=l.length∧SF base w l A c:=by
 obtain⟨F,h1,h2⟩:=h;obtain⟨hn,F',h3,h4⟩:=h1.zG;refine⟨hn,F',h3,?_⟩;rcases h4 with rfl|⟨g,_,rfl,h5,h6,h7⟩;·exact bL.nil _ _
 ·refine⟨List.nodup_cons.2 ⟨h7,h2.1⟩,fun b hb=> ?_⟩;rcases List.mem_cons.1 hb with rfl|hb;·exact⟨h5,h6⟩
  ·exact h2.2 b hb
theorem gI.sa{w:World}{base:Nat}{t:TypeId}{A:Option Addr}{n c:Nat}{l:List α}(h:gI w base t (.slice A n c) l):n=l.length∧SA w l A c:=by
 obtain⟨F,h1,h2⟩:=h;obtain⟨hn,F',h3,h4⟩:=h1.zG;refine⟨hn,F',h3,?_⟩;rcases h4 with rfl|⟨g,_,rfl,h5,h6,h7⟩;·simp
 ·intro b hb;rcases List.mem_cons.1 hb with rfl|hb;·exact h6.lt
  ·exact h2 b hb
end
end
section
theorem bu(g:Nat): ∀(cs:List Value)(w:World)(off:Nat)(b:Nat),b≠g→(bl w g off cs).heap[b]? =w.heap[b]? |[],_,_,_,_=>rfl|c::cs,w,off,b,hb=>(bu g cs _ (off+1) b hb).trans (Below.heap_setCell w ⟨g,off,none⟩ c b hb)
theorem cA(g:Nat): ∀(cs:List Value)(w:World)(off:Nat),(bl w g off cs).heap.size=w.heap.size|[],_,_=>rfl|c::cs,w,off=>(cA g cs _ (off+1)).trans (by simp[World.setCell])
theorem iN(g:Nat): ∀(cs:List Value)(w:World)(off:Nat),(bl w g off cs).os=w.os∧(bl w g off cs).tape=w.tape∧(bl w g off cs).output=w.output|[],_,_=>⟨rfl,rfl,rfl⟩|c::cs,w,off=>iN g cs (w.setCell ⟨g,off,none⟩ c) (off+1)
def n9:List Value→Nat→List Value→List Value|xs,_,[]=>xs|xs,off,c::cs=>n9 (xs.set off c) (off+1) cs
theorem pL: ∀(cs xs:List Value)(off:Nat),off+cs.length≤xs.length→n9 xs off cs=xs.take off++(cs++xs.drop (off+cs.length))|[],xs,off,h=>by simp[n9]|c::cs,xs,off,h=>by rw[n9,pL cs _ (off+1) (by simp at h ⊢;omega)];(have hlt:off<xs.length:=by simp at h;omega);rw[List.take_set,List.take_succ_eq_append_getElem hlt,List.set_append_right _ _ (by simp;omega)];rw[List.drop_set_of_lt (by omega)];simp only[List.length_take,List.length_cons];rw[Nat.min_eq_left (by omega)];simp[Nat.add_assoc,Nat.add_comm 1]
theorem iW{base:Nat}{t:TypeId}{size n g c:Nat}: ∀(cs xs:List Value)(w:World)(off:Nat),w.ownsRow base t size (.slice (some ⟨g,0,none⟩) n c) n xs→(bl w g off cs).ownsRow base t size (.slice (some ⟨g,0,none⟩) n c) n (n9 xs off cs)|[],_,_,_,h=>h|u::cs,xs,w,off,h=>iW cs _ _ (off+1) (h.stored off u).1
section
variable {α : Type} [aD α]
theorem aL.set{w:World}{a:α}{F':List Nat}{cs:List Value}(hr:aD.rp w F' a cs): ∀{l:List α}{F:List Nat}{xs:List Value},aL w l F xs→ ∀i,i<l.length→ ∃F1 F2 F3,F=F1++(F2++F3)∧aL w (l.set i a) (F1++(F'++F3)) (xs.take (i*aD.wd α)++(cs++xs.drop (i*aD.wd α+cs.length)))|[],_,_,_,i,hi=>absurd hi (by simp)|a0::l,_,_,⟨G1,G2,cs0,ys,hF,hx,hr0,he⟩,i,hi=>by subst hF hx;have hl:cs.length=aD.wd α:=aD.len hr;have hl0:cs0.length=aD.wd α:=aD.len hr0;cases i with|zero=>refine⟨[],G1,G2,rfl,F',G2,cs,ys,by simp,?_,hr,he⟩;rw[Nat.zero_mul,List.take_zero,List.nil_append,Nat.zero_add,hl,←hl0,List.drop_left]|succ i=>obtain⟨F1,F2,F3,hF,he'⟩:=aL.set hr he i (by simpa using hi);subst hF;refine⟨G1++F1,F2,F3,by simp,G1,F1++(F'++F3),cs0,_,by simp,?_,hr0,he'⟩;(have e:(i+1)*aD.wd α=cs0.length+i*aD.wd α:=by rw[hl0,Nat.add_mul];omega);rw[e,List.take_append,List.take_of_length_le (by omega),Nat.add_sub_cancel_left,Nat.add_assoc,List.drop_append,List.drop_of_length_le (by omega),List.nil_append,Nat.add_sub_cancel_left,List.append_assoc]
theorem c7.stored {w : World} {base : Nat} {t : TypeId} {g n c : Nat} {l : List α} {F F' : List Nat} (h : c7 w base t (.slice (some ⟨g, 0, none⟩) n c) l F) {i : Nat} (hi : i < l.length) {a : α} {cs : List Value}
    (hr : aD.rp w F' a cs) (hg : g ∉ F') : ∃ F1 F2 F3, F = F1 ++ (F2 ++ F3) ∧ c7 (bl w g (i * aD.wd α) cs) base t (.slice (some ⟨g, 0, none⟩) n c) (l.set i a) (F1 ++ (F' ++ F3)) := by
  obtain ⟨xs, h1, h2, h3⟩ := h
  have hn : n = l.length := by
    rcases h1.2 with ⟨hv, _⟩ | ⟨_, _, _, hv, _⟩
    · cases hv
    · injection hv
  subst hn
  obtain ⟨F1, F2, F3, hF, he⟩ := aL.set hr h2 i hi
  have hg1 : g ∉ F := h3 g rfl
  have hg2 : g ∉ F1 ++ (F' ++ F3) := by
    subst hF
    simp only [List.mem_append, not_or] at hg1 ⊢
    exact ⟨hg1.1, hg, hg1.2.2⟩
  have hlen := h2.len
  have hcl : cs.length = aD.wd α := aD.len hr
  have hle : i * aD.wd α + cs.length ≤ xs.length := by
    rw [hlen, hcl]
    calc i * aD.wd α + aD.wd α = (i + 1) * aD.wd α := by rw [Nat.add_mul, Nat.one_mul]
      _ ≤ l.length * aD.wd α := Nat.mul_le_mul_right _ hi
  refine ⟨F1, F2, F3, hF, _, by rw [List.length_set]; exact iW cs xs w _ h1, ?_, fun g' hg' => ?_⟩
  · rw [pL cs xs _ hle]
    exact he.al fun b hb => bu g cs w _ b (fun e => hg2 (e ▸ hb))
  · simp only [Value.ownBlock, Option.some.injEq] at hg'
    exact hg' ▸ hg2
theorem c7.facts {w : World} {base : Nat} {t : TypeId} {g n c : Nat} {l : List α} {F : List Nat} (h : c7 w base t (.slice (some ⟨g, 0, none⟩) n c) l F) {i j : Nat} (hi : i < l.length) (hj : j < aD.wd α) :
    (∃ u, w.cell? ⟨g, i * aD.wd α + j, none⟩ = some u) ∧ w.frozen? ⟨g, i * aD.wd α + j, none⟩ = false := by
  obtain ⟨xs, h1, h2, h3⟩ := h
  have hn : n = l.length := by
    rcases h1.2 with ⟨hv, _⟩ | ⟨_, _, _, hv, _⟩
    · cases hv
    · injection hv
  subst hn
  have hlt : i * aD.wd α + j < l.length * aD.wd α := by
    calc i * aD.wd α + j < i * aD.wd α + aD.wd α := by omega
      _ = (i + 1) * aD.wd α := by rw [Nat.add_mul, Nat.one_mul]
      _ ≤ l.length * aD.wd α := Nat.mul_le_mul_right _ hi
  refine ⟨?_, h1.frozenAt _⟩
  rw [h1.cellAt _ hlt]
  exact ⟨_, List.getElem?_eq_getElem (by rw [h2.len]; exact hlt)⟩
theorem c7.at{w:World}{base:Nat}{t:TypeId}{g n c:Nat}{l:List α}{F:List Nat}(h:c7 w base t (.slice (some ⟨g,0,none⟩) n c) l F){i:Nat}(hi:i<l.length): ∃F' cs,aD.rp w F' l[i] cs∧(∀b,b∈F'→b∈F)∧ba w g (i*aD.wd α) cs:=by
 obtain⟨hn,F0,hs,h4⟩:=h.zG;obtain⟨xs,h1,h2,h3⟩:=h;subst hn;obtain⟨F',cs,hr,hs',hx⟩:=h2.get i hi;refine⟨F',cs,hr,hs',fun j v hj=> ?_⟩;have hj':=hx j v hj;have hl:i*aD.wd α+j<xs.length:=(List.getElem?_eq_some_iff.1 hj').1;rw[h1.cellAt _ (by rw[←h2.len];exact hl)];exact hj'
theorem c7.lt{w:World}{base:Nat}{t:TypeId}{g n c:Nat}{l:List α}{F:List Nat}(h:c7 w base t (.slice (some ⟨g,0,none⟩) n c) l F):base≤g∧g<w.heap.size:=let⟨_,h1,_⟩:=h;h1.lt g rfl
theorem ay.lt{w:World}{base:Nat}{t:TypeId}{g n c:Nat}{l:List α}(h:ay w base t (.slice (some ⟨g,0,none⟩) n c) l):base≤g∧g<w.heap.size:=let⟨_,h1,_⟩:=h;h1.lt
theorem c7.grown{w w':World}{base:Nat}{t:TypeId}{v v':Value}{l ys:List α}{F F':List Nat}{xs news:List Value}(h2:aL w l F xs)(h3: ∀g,v.ownBlock=some g→g∉F)(hel:aL w ys F' news)(hF: ∀g,v.ownBlock=some g→g∉F')(hlt: ∀b,b∈F++F'→b<w.heap.size)(ho:w'.ownsRow base t (aD.wd α) v' (l.length+ys.length) (xs++news))(hg:w.grownBy w' v.ownBlock)(hat:v'.ownBlock=v.ownBlock∨v'.ownBlock=some w.heap.size):c7 w' base t v' (l++ys) (F++F'):=by
 have hne: ∀g,v.ownBlock=some g→g∉F++F':=fun g hg=>by simp only[List.mem_append,not_or];exact⟨h3 g hg,hF g hg⟩
 refine⟨xs++news,by rw[List.length_append];exact ho,(h2.append hel).al fun b hb=>hg.block b (hlt b hb) (fun e=>hne b e.symm hb),fun g hgv=> ?_⟩;rcases hat with e|e;·exact hne g (e▸hgv)
 ·rw[e] at hgv;injection hgv with hgv;intro hm;have:=hlt g hm;omega
end
end
structure GStep where
  at_ : Int
  name : Bool
  deriving DecidableEq, Inhabited
instance : aD GStep where
  wd := 2
  rp := fun _ F s cs => F = [] ∧ cs = [.int .i64 s.at_, .bool s.name] ∧ aT s.at_
  len := by rintro _ _ _ _ ⟨_, rfl, _⟩; rfl
  one := by rintro _ _ _ _ ⟨_, rfl, _⟩ u hu; simp at hu; rcases hu with rfl | rfl <;> rfl
  al := fun h _ => h
structure ag where
  kind : Int
  p : List GStep
  deriving DecidableEq, Inhabited
instance : aD ag where
  wd := 2
  rp := fun w F x cs => ∃ A c, cs = [.int .i64 x.kind, .slice A x.p.length c] ∧ aT x.kind ∧ uo w F x.p A c
  len := by rintro _ _ _ _ ⟨_, _, rfl, _⟩; rfl
  one := by rintro _ _ _ _ ⟨_, _, rfl, _⟩ u hu; simp at hu; rcases hu with rfl | rfl <;> rfl
  al := by rintro _ _ _ _ _ ⟨A, c, rfl, hI, h⟩ hk; exact ⟨A, c, rfl, hI, h.al hk⟩
structure zU where
  b : List UInt8
  l : List ag
  code : Int
  deriving DecidableEq, Inhabited
instance : aD zU where
  wd := 3
  rp := fun w F x cs => ∃ A c A' c' F1 F2, F = F1 ++ F2 ∧ cs = [.slice A x.b.length c, .slice A' x.l.length c', .int .i64 x.code] ∧ aT x.code ∧ uo w F1 x.b A c ∧ uo w F2 x.l A' c'
  len := by rintro _ _ _ _ ⟨_, _, _, _, _, _, _, rfl, _⟩; rfl
  one := by rintro _ _ _ _ ⟨_, _, _, _, _, _, _, rfl, _⟩ u hu; simp at hu; rcases hu with rfl | rfl | rfl <;> rfl
  al := by
    rintro _ _ _ _ _ ⟨A, c, A', c', F1, F2, rfl, rfl, hI, h1, h2⟩ hk
    exact ⟨A, c, A', c', F1, F2, rfl, rfl, hI, h1.al fun b hb => hk b (List.mem_append_left _ hb), h2.al fun b hb => hk b (List.mem_append_right _ hb)⟩
theorem ri{x y:GStep}(h1:x.at_=y.at_)(h2:x.name=y.name):x=y:=by
 cases x;cases y;subst h1 h2;rfl
theorem aT.zero:aT 0:=⟨by omega,by omega⟩
theorem SA.df{w:World}{l:List GStep}{A:Option Addr}{c:Nat}(h:SA w l A c){i:Nat}(hi:i<l.length): ∃b off,A=some ⟨b,off,none⟩∧b<w.heap.size∧aT l[i].at_∧w.cell? ⟨b,off+i*2,none⟩=some (.int .i64 l[i].at_)∧w.cell? ⟨b,off+i*2+1,none⟩=some (.bool l[i].name):=by
 obtain⟨b,off,cs,rfl,hb,⟨F,⟨_,rfl,hI⟩,_⟩,hc⟩:=h.at hi;exact⟨b,off,rfl,hb,hI,hc.c0,hc.c1⟩
theorem SA.jC{w:World}{l:List ag}{A:Option Addr}{c:Nat}(h:SA w l A c){i:Nat}(hi:i<l.length): ∃b off A' c',A=some ⟨b,off,none⟩∧b<w.heap.size∧aT l[i].kind∧SA w l[i].p A' c'∧w.cell? ⟨b,off+i*2,none⟩=some (.int .i64 l[i].kind)∧w.cell? ⟨b,off+i*2+1,none⟩=some (.slice A' l[i].p.length c'):=by
 obtain⟨b,off,cs,rfl,hb,⟨F,⟨A',c',rfl,hI,hs⟩,hF⟩,hc⟩:=h.at hi;exact⟨b,off,A',c',rfl,hb,hI,⟨F,hs,hF⟩,hc.c0,hc.c1⟩
theorem RF.step{base:Nat}{w:World}(s:GStep)(h:aT s.at_):RF base w s [.int .i64 s.at_,.bool s.name]:=⟨[],⟨rfl,rfl,h⟩,bL.nil _ _⟩
theorem RF.out{base:Nat}{w:World}{o:zU}{A A':Option Addr}{c c':Nat}(hI:aT o.code)(h: ∃F1 F2,uo w F1 o.b A c∧uo w F2 o.l A' c'∧bL base w (F1++F2)):RF base w o [.slice A o.b.length c,.slice A' o.l.length c',.int .i64 o.code]:=let⟨F1,F2,h1,h2,h3⟩:=h;⟨F1++F2,⟨A,c,A',c',F1,F2,rfl,rfl,hI,h1,h2⟩,h3⟩
theorem RF.byte{base:Nat}{w:World}(b:UInt8):RF base w b [.int .u8 (b.toNat:Int)]:=⟨[],⟨rfl,rfl⟩,bL.nil _ _⟩
theorem RF.int{base:Nat}{w:World}(n:Int)(h:aT n):RF base w n [.int .i64 n]:=⟨[],⟨rfl,rfl,h⟩,bL.nil _ _⟩
theorem RF.lS{base:Nat}{w:World}{x:ag}{A:Option Addr}{c:Nat}(h:aT x.kind)(hs:SF base w x.p A c):RF base w x [.int .i64 x.kind,.slice A x.p.length c]:=let⟨F,h1,h2⟩:=hs;⟨F,⟨A,c,rfl,h,h1⟩,h2⟩
def fl(x:ag):Nat:=x.p.length
def dw(l:List ag):Nat:=l.length+(l.map fl).sum
theorem et{α:Type}(f:α→Nat): ∀(l:List α){k:Nat}(h:k<l.length),f l[k]≤(l.map f).sum|[],_,h=>absurd h (by simp)|a::l,0,_=>by simp|a::l,k+1,h=>by have:=et f l (k:=k) (by simpa using h);simp only[List.getElem_cons_succ,List.map_cons,List.sum_cons];omega
theorem gW{α:Type}{xs ys:List α}{k:Nat}(hx:k<xs.length)(hy:k<ys.length)(h:xs.take k=ys.take k)(e:xs[k]=ys[k]):xs.take (k+1)=ys.take (k+1):=by
 rw[List.take_succ_eq_append_getElem hx,List.take_succ_eq_append_getElem hy,h,e]
theorem ja{α:Type}{xs ys:List α}{k:Nat}(hk:k=xs.length)(hl:xs.length=ys.length)(h:xs.take k=ys.take k):xs=ys:=by
 rw[hk,List.take_length,hl,List.take_length] at h;exact h
theorem eS{α:Type}{f:α→Bool}{l:List α}{k:Nat}(hk:k<l.length)(h:(l.take k).any f=false)(e:f l[k]=false):(l.take (k+1)).any f=false:=by
 rw[List.take_succ_eq_append_getElem hk,List.any_append,h];simp[e]
theorem ob{α:Type}{f:α→Bool}{l:List α}{k:Nat}(hk:k<l.length)(e:f l[k]=true):l.any f=true:=List.any_eq_true.2 ⟨_,List.getElem_mem hk,e⟩
theorem rV{α:Type}{f:α→Bool}{l:List α}{k:Nat}(hk:k=l.length)(h:(l.take k).any f=false):l.any f=false:=by
 rw[hk,List.take_length] at h;exact h
def idxOf{α:Type}(f:α→Bool)(l:List α):Int:=match l.findIdx? f with|some i=>i|none=> -1
theorem idxOf_hit{α:Type}{f:α→Bool}{l:List α}{k:Nat}(hk:k<l.length)(h:(l.take k).any f=false)(e:f l[k]=true):idxOf f l=k:=by
 have:l.findIdx? f=some k:=by rw[List.findIdx?_eq_some_iff_getElem];refine⟨hk,e,fun j hj=> ?_⟩;(have hjl:j<(l.take k).length:=by simp;omega);have:=List.any_eq_false.1 h _ (List.getElem_mem hjl);simpa using this
 simp[idxOf,this]
theorem jg{α:Type}{f:α→Bool}{l:List α}{k:Nat}(hk:k=l.length)(h:(l.take k).any f=false):idxOf f l= -1:=by
 have:l.findIdx? f=none:=by rw[List.findIdx?_eq_none_iff];rw[hk,List.take_length] at h;intro x hx;simpa using List.any_eq_false.1 h x hx
 simp[idxOf,this]
theorem vr{α:Type}(f:α→Bool)(l:List α):decide (0≤idxOf f l)=l.any f:=by
 unfold idxOf;cases h:l.findIdx? f with|none=>rw[List.findIdx?_eq_none_iff] at h;(have:l.any f=false:=List.any_eq_false.2 fun x hx=>by simp[h x hx]);simp[this]|some i=>obtain⟨hi,e,_⟩:=List.findIdx?_eq_some_iff_getElem.1 h;simp[ob hi e]
theorem qP{α:Type}(f:α→Bool)(l:List α): -1≤idxOf f l∧idxOf f l≤l.length:=by
 unfold idxOf;cases h:l.findIdx? f with|none=>exact⟨by show(-1:Int)≤ -1;omega,by show(-1:Int)≤_;omega⟩|some i=>obtain⟨hi,e,_⟩:=List.findIdx?_eq_some_iff_getElem.1 h;exact⟨by show(-1:Int)≤(i:Int);omega,by show(i:Int)≤_;omega⟩
def bW(w:World)(v:Value)(e:Ending)(w':World):Prop:=e=.returned v∧Below w.heap.size w w'
def vL{α:Type}[aD α](w:World)(l:List α)(e:Ending)(w':World):Prop:= ∃A c,e=.returned (.slice A l.length c)∧SF w.heap.size w' l A c∧Below w.heap.size w w'
section
section
variable {α : Type} (lt : α → α → Bool)
structure l9 : Prop where
  irr : ∀ a, lt a a = false
  rH : ∀ a b, lt a b = true → lt b a = false
  le_trans : ∀ a b c, lt b a = false → lt c b = false → lt c a = false
def cB(l:List α):Prop:=l.Pairwise fun a b=>lt b a=false
def cI(x:α):List α→List α|[]=>[x]|y::ys=>if lt x y then y::cI x ys else x::y::ys
def cw(q:List α)(x:α):List α:=(cI lt x q.reverse).reverse
def aq:List α→List α→List α|q,[]=>q|q,x::xs=>aq (cw lt q x) xs
theorem iF(x:α): ∀l,(cI lt x l).Perm (x::l)|[]=>.refl _|y::ys=>by rw[cI];split;(·exact((iF x ys).cons y).trans (.swap x y ys));·exact .refl _
theorem qC(q:List α)(x:α):(cw lt q x).Perm (q++[x]):=by
 unfold cw;refine(List.reverse_perm _).trans ((iF lt x _).trans ?_);refine((List.reverse_perm q).cons x).trans ?_;exact(List.perm_append_comm (l₁:=[x]) (l₂:=q))
theorem bD: ∀(xs q:List α),(aq lt q xs).Perm (q++xs)|[],q=>by simp[aq]|x::xs,q=>by rw[aq];refine(bD xs _).trans ?_;have:=(qC lt q x).append_right xs;simpa using this
variable {lt}
theorem ox(O:l9 lt)(x:α): ∀l,l.Pairwise (fun a b=>lt a b=false)→(cI lt x l).Pairwise (fun a b=>lt a b=false)|[],_=>by simp[cI]|y::ys,h=>by rw[cI];rw[List.pairwise_cons] at h;split;(·rename_i hx;rw[List.pairwise_cons];refine⟨fun b hb=> ?_,ox O x ys h.2⟩;rcases List.mem_cons.1 ((iF lt x ys).mem_iff.1 hb) with e|e;(·rw[e];exact O.rH _ _ hx);·exact h.1 b e);·rename_i hx;(have hx':lt x y=false:=by simpa using hx);rw[List.pairwise_cons];refine⟨fun b hb=> ?_,List.pairwise_cons.2 h⟩;rcases List.mem_cons.1 hb with e|e;(·rw[e];exact hx');·exact O.le_trans b y x (h.1 b e) hx'
theorem qQ(O:l9 lt){q:List α}(x:α)(h:cB lt q):cB lt (cw lt q x):=by
 unfold cB cw;rw[List.pairwise_reverse];refine ox O x _ ?_;rw[List.pairwise_reverse];exact h
theorem ib(O:l9 lt): ∀(xs q:List α),cB lt q→cB lt (aq lt q xs)|[],q,h=>h|x::xs,q,h=>ib O xs _ (qQ O x h)
theorem cB.append(O:l9 lt){a b:List α}:cB lt (a++b)↔cB lt a∧cB lt b∧ ∀x∈a,∀y∈b,lt y x=false:=List.pairwise_append
theorem cB.nil:cB lt []:=List.Pairwise.nil
theorem cB.le_last(O:l9 lt){a:List α}{z:α}(h:cB lt (a++[z])): ∀x∈a++[z],lt z x=false:=by
 rw[cB.append O] at h;intro x hx;rcases List.mem_append.1 hx with hx|hx;·exact h.2.2 x hx z (by simp)
 ·rw[List.mem_singleton.1 hx];exact O.irr z
theorem cB.lg(O:l9 lt){a:List α}{z:α}(h:cB lt (z::a)): ∀x∈z::a,lt x z=false:=by
 intro x hx;rcases List.mem_cons.1 hx with hx|hx;·rw[hx];exact O.irr z
 ·exact(List.pairwise_cons.1 h).1 x hx
theorem cB.meet(O:l9 lt){a b:List α}(ha:cB lt a)(hb:cB lt b)(h: ∀x y,a.getLast? =some x→b.head? =some y→lt y x=false): ∀x∈a,∀y∈b,lt y x=false:=by
 intro x hx y hy;have hane:a≠[]:=List.ne_nil_of_mem hx;cases b with|nil=>simp at hy|cons z b=>have h1:=h (a.getLast hane) z (List.getLast?_eq_some_getLast hane) rfl;(have h2:lt (a.getLast hane) x=false:=by have e:=List.dropLast_concat_getLast hane;exact cB.le_last O (a:=a.dropLast) (z:=a.getLast hane) (by rw[e];exact ha) x (by rw[e];exact hx));have h3:=cB.lg O hb y hy;exact O.le_trans x (a.getLast hane) y h2 (O.le_trans _ z _ h1 h3)
theorem vE(O:l9 lt){X1 X2 Y1 Y2 Z1 Z2:List α}(hX:cB lt (X1++X2))(hY:cB lt (Y1++Y2))(h1: ∀x y,X1.getLast? =some x→Y2.head? =some y→lt y x=false)(h2: ∀x y,Y1.getLast? =some x→X2.head? =some y→lt y x=false)(p1:Z1.Perm (X1++Y1))(p2:Z2.Perm (X2++Y2))(s1:cB lt Z1)(s2:cB lt Z2):cB lt (Z1++Z2)∧(Z1++Z2).Perm (X1++X2++(Y1++Y2)):=by
 have hX':=(cB.append O).1 hX;have hY':=(cB.append O).1 hY;refine⟨(cB.append O).2 ⟨s1,s2,fun x hx y hy=> ?_⟩,?_⟩
 ·rcases List.mem_append.1 (p1.mem_iff.1 hx) with hx|hx<;>rcases List.mem_append.1 (p2.mem_iff.1 hy) with hy|hy;·exact hX'.2.2 x hx y hy
  ·exact cB.meet O hX'.1 hY'.2.1 h1 x hx y hy
  ·exact cB.meet O hY'.1 hX'.2.1 h2 x hx y hy
  ·exact hY'.2.2 x hx y hy
 ·refine(p1.append p2).trans ?_;rw[List.append_assoc,List.append_assoc];refine List.Perm.append_left X1 ?_;rw[←List.append_assoc,←List.append_assoc];exact List.Perm.append_right Y2 List.perm_append_comm
theorem so(O:l9 lt)(hE: ∀a b,lt a b=false→lt b a=false→a=b): ∀{a b:List α},a.Perm b→cB lt a→cB lt b→a=b|[],b,hp,_,_=>(List.nil_perm.1 hp).symm|x::a,[],hp,_,_=>absurd hp.length_eq (by simp)|x::a,y::b,hp,ha,hb=>by have h1:=cB.lg O ha;have h2:=cB.lg O hb;have e:x=y:=hE x y (h2 x (hp.mem_iff.1 (by simp))) (h1 y (hp.mem_iff.2 (by simp)));subst e;rw[so O hE (List.Perm.cons_inv hp) (List.pairwise_cons.1 ha).2 (List.pairwise_cons.1 hb).2]
end
end
end Go.Proofs.YtodpdjehjllhdaaGreatDoor
