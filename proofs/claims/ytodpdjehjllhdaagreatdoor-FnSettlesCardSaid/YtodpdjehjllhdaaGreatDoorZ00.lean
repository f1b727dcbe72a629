/- Part of a proof: contracts and plain laws. -/
import Derived.WalkKit
import Derived.Below
import Derived.OwnWalk
import Derived.WalkSpells
import Derived.WalkLawsBesides
import Derived.Deep.LoopGhost
import Derived.Deep.OwnRows
import Derived.Deep.AppendLies
import Derived.Deep.Draws
import Derived.Laws.Rows
import Derived.Lib.Hide
import Derived.Maps.AppendAt
import Derived.Test.YtodpdjehjllhdaaGreatDoorChecked
import Derived.StillTailTactics
import Derived.Outline
set_option linter.unusedVariables false
set_option maxRecDepth 100000
set_option maxHeartbeats 20000000
namespace Go.Proofs.YtodpdjehjllhdaaGreatDoor
open Go.RowKit
abbrev xP:=@And.intro
abbrev xQ:=@Lib.hid
section
def aX(n:Int):Prop:= -9223372036854775808≤n∧n≤9223372036854775807
def aZ(w:World)(b off:Nat)(cs:List Value):Prop:= ∀j v,cs[j]? =some v→w.cell? ⟨b,off+j,none⟩=some v
theorem aZ.an{w w':World}{b off:Nat}{cs:List Value}(h:aZ w b off cs)(hb:w'.heap[b]? =w.heap[b]?):aZ w' b off cs:=fun j v hj=>(World.cell?_of_block (w:=w) (a:=⟨b,off+j,none⟩) hb).trans (h j v hj)
theorem aZ.sub{w:World}{b off:Nat}{xs ys:List Value}{k:Nat}(h:aZ w b off xs)(hs: ∀j v,ys[j]? =some v→xs[k+j]? =some v):aZ w b (off+k) ys:=fun j v hj=>by have:=h (k+j) v (hs j v hj);rwa[←Nat.add_assoc] at this
theorem aZ.lt{w:World}{b off:Nat}{cs:List Value}(h:aZ w b off cs)(hc:0<cs.length):b<w.heap.size:=by
 have:=h 0 cs[0] (List.getElem?_eq_getElem hc);exact World.block_lt_of_cell? w _ this
theorem aZ.c0{w:World}{b off:Nat}{x:Value}{cs:List Value}(h:aZ w b off (x::cs)):w.cell? ⟨b,off,none⟩=some x:=h 0 x rfl
theorem aZ.c1{w:World}{b off:Nat}{x0 x:Value}{cs:List Value}(h:aZ w b off (x0::x::cs)):w.cell? ⟨b,off+1,none⟩=some x:=h 1 x rfl
theorem aZ.c2{w:World}{b off:Nat}{x0 x1 x:Value}{cs:List Value}(h:aZ w b off (x0::x1::x::cs)):w.cell? ⟨b,off+1+1,none⟩=some x:=h 2 x rfl
theorem aZ.c3{w:World}{b off:Nat}{x0 x1 x2 x:Value}{cs:List Value}(h:aZ w b off (x0::x1::x2::x::cs)):w.cell? ⟨b,off+1+1+1,none⟩=some x:=h 3 x rfl
theorem aZ.c4{w:World}{b off:Nat}{x0 x1 x2 x3 x:Value}{cs:List Value}(h:aZ w b off (x0::x1::x2::x3::x::cs)):w.cell? ⟨b,off+1+1+1+1,none⟩=some x:=h 4 x rfl
class aG (α : Type) where
  wd : Nat
  rp : World → List Nat → α → List Value → Prop
  len : ∀ {w F a cs}, rp w F a cs → cs.length = wd
  one : ∀ {w F a cs}, rp w F a cs → ∀ u ∈ cs, u.oneCell' = true
  an : ∀ {w w' F a cs}, rp w F a cs → (∀ b, b ∈ F → w'.heap[b]? = w.heap[b]?) → rp w' F a cs
instance : aG Int where
  wd := 1
  rp := fun _ F n cs => F = [] ∧ cs = [.int .i64 n] ∧ aX n
  len := by rintro _ _ _ _ ⟨_, rfl, _⟩; rfl
  one := by rintro _ _ _ _ ⟨_, rfl, _⟩ u hu; simp at hu; subst hu; rfl
  an := fun h _ => h
instance : aG Bool where
  wd := 1
  rp := fun _ F b cs => F = [] ∧ cs = [.bool b]
  len := by rintro _ _ _ _ ⟨_, rfl⟩; rfl
  one := by rintro _ _ _ _ ⟨_, rfl⟩ u hu; simp at hu; subst hu; rfl
  an := fun h _ => h
instance : aG UInt8 where
  wd := 1
  rp := fun _ F b cs => F = [] ∧ cs = [.int .u8 (b.toNat : Int)]
  len := by rintro _ _ _ _ ⟨_, rfl⟩; rfl
  one := by rintro _ _ _ _ ⟨_, rfl⟩ u hu; simp at hu; subst hu; rfl
  an := fun h _ => h
instance : aG ByteArray where
  wd := 1
  rp := fun _ F s cs => F = [] ∧ cs = [.string s] ∧ s.size ≤ maxLen
  len := by rintro _ _ _ _ ⟨_, rfl, _⟩; rfl
  one := by rintro _ _ _ _ ⟨_, rfl, _⟩ u hu; simp at hu; subst hu; rfl
  an := fun h _ => h
section
variable {α : Type} [aG α]
def aH(w:World):List α→List Nat→List Value→Prop|[],F,xs=>F=[]∧xs=[]|a::l,F,xs=> ∃F1 F2 cs ys,F=F1++F2∧xs=cs++ys∧aG.rp w F1 a cs∧aH w l F2 ys
theorem aH.len{w:World}: ∀{l:List α}{F:List Nat}{xs:List Value},aH w l F xs→xs.length=l.length*aG.wd α|[],_,_,⟨_,h⟩=>by subst h;simp|_::l,_,_,⟨_,_,_,_,_,hx,hr,he⟩=>by subst hx;rw[List.length_append,aG.len hr,he.len,List.length_cons,Nat.add_mul,Nat.one_mul,Nat.add_comm]
theorem aH.one{w:World}: ∀{l:List α}{F:List Nat}{xs:List Value},aH w l F xs→ ∀u∈xs,u.oneCell'=true|[],_,_,⟨_,h⟩=>by subst h;simp|_::l,_,_,⟨_,_,_,_,_,hx,hr,he⟩=>by subst hx;intro u hu;rcases List.mem_append.1 hu with hu|hu;(·exact aG.one hr u hu);·exact he.one u hu
theorem aH.an{w w':World}: ∀{l:List α}{F:List Nat}{xs:List Value},aH w l F xs→(∀b,b∈F→w'.heap[b]? =w.heap[b]?)→aH w' l F xs|[],_,_,h,_=>h|_::l,_,_,⟨F1,F2,cs,ys,hF,hx,hr,he⟩,hk=>by subst hF;exact⟨F1,F2,cs,ys,rfl,hx,aG.an hr fun b hb=>hk b (List.mem_append_left _ hb),he.an fun b hb=>hk b (List.mem_append_right _ hb)⟩
theorem aH.append{w:World}: ∀{l l':List α}{F F':List Nat}{xs xs':List Value},aH w l F xs→aH w l' F' xs'→aH w (l++l') (F++F') (xs++xs')|[],_,_,_,_,_,⟨h1,h2⟩,h'=>by subst h1 h2;exact h'|a::l,_,_,_,_,_,⟨F1,F2,cs,ys,hF,hx,hr,he⟩,h'=>by subst hF hx;exact⟨F1,_,cs,_,by rw[List.append_assoc],by rw[List.append_assoc],hr,he.append h'⟩
theorem aH.single{w:World}{a:α}{F:List Nat}{cs:List Value}(h:aG.rp w F a cs):aH w [a] F cs:=⟨F,[],cs,[],by simp,by simp,h,rfl,rfl⟩
theorem aH.snoc{w:World}{l:List α}{a:α}{F F':List Nat}{xs cs:List Value}(h:aH w l F xs)(h':aG.rp w F' a cs):aH w (l++[a]) (F++F') (xs++cs):=h.append (aH.single h')
theorem aH.get{w:World}: ∀{l:List α}{F:List Nat}{xs:List Value},aH w l F xs→ ∀i(hi:i<l.length),∃F' cs,aG.rp w F' l[i] cs∧(∀b,b∈F'→b∈F)∧ ∀j v,cs[j]? =some v→xs[i*aG.wd α+j]? =some v|[],_,_,_,i,hi=>absurd hi (by simp)|a::l,_,_,⟨F1,F2,cs,ys,hF,hx,hr,he⟩,i,hi=>by subst hF hx;cases i with|zero=>refine⟨F1,cs,hr,fun b hb=>List.mem_append_left _ hb,fun j v hj=> ?_⟩;rw[Nat.zero_mul,Nat.zero_add,List.getElem?_append_left (List.getElem?_eq_some_iff.1 hj).1];exact hj|succ i=>obtain⟨F',cs',hr',hs,hc⟩:=he.get i (by simpa using hi);refine⟨F',cs',hr',fun b hb=>List.mem_append_right _ (hs b hb),fun j v hj=> ?_⟩;have hl:cs.length=aG.wd α:=aG.len hr;rw[List.getElem?_append_right (by rw[hl,Nat.add_mul];omega),←hc j v hj];congr 1;rw[hl,Nat.add_mul];omega
theorem aH.split{w:World}: ∀{l l':List α}{F:List Nat}{xs:List Value},aH w (l++l') F xs→ ∃F1 F2 xs1 xs2,F=F1++F2∧xs=xs1++xs2∧aH w l F1 xs1∧aH w l' F2 xs2|[],_,F,xs,h=>⟨[],F,[],xs,rfl,rfl,⟨rfl,rfl⟩,h⟩|a::l,l',_,_,⟨F1,F2,cs,ys,hF,hx,hr,he⟩=>by subst hF hx;obtain⟨G1,G2,y1,y2,h1,h2,h3,h4⟩:=aH.split (l:=l) (l':=l') he;subst h1 h2;exact⟨F1++G1,G2,cs++y1,y2,by rw[List.append_assoc],by rw[List.append_assoc],⟨F1,G1,cs,y1,rfl,rfl,hr,h3⟩,h4⟩
def ua(w:World)(F:List Nat)(l:List α)(A:Option Addr)(c:Nat):Prop:=l.length≤c∧c≤maxLen∧((l=[]∧F=[]∧(A=none→c=0))∨ ∃b off F' xs,A=some ⟨b,off,none⟩∧F=b::F'∧aH w l F' xs∧aZ w b off xs)
theorem ua.an{w w':World}{F:List Nat}{l:List α}{A:Option Addr}{c:Nat}(h:ua w F l A c)(hk: ∀b,b∈F→w'.heap[b]? =w.heap[b]?):ua w' F l A c:=by
 obtain⟨h1,h2,h3⟩:=h;refine⟨h1,h2,?_⟩;rcases h3 with h3|⟨b,off,F',xs,hA,hF,he,hc⟩;·exact .inl h3
 ·subst hF;exact .inr ⟨b,off,F',xs,hA,rfl,he.an fun b hb=>hk b (List.mem_cons_of_mem _ hb),hc.an (hk _ (List.mem_cons_self ..))⟩
instance : aG (List α) where
  wd := 1
  rp := fun w F l cs => ∃ A c, cs = [.slice A l.length c] ∧ ua w F l A c
  len := by rintro _ _ _ _ ⟨_, _, rfl, _⟩; rfl
  one := by rintro _ _ _ _ ⟨_, _, rfl, _⟩ u hu; simp at hu; subst hu; rfl
  an := by rintro _ _ _ _ _ ⟨A, c, rfl, h⟩ hk; exact ⟨A, c, rfl, h.an hk⟩
def RS(w:World)(S:Nat→Prop)(a:α)(cs:List Value):Prop:= ∃F,aG.rp w F a cs∧ ∀b,b∈F→S b
def SS(w:World)(S:Nat→Prop)(l:List α)(A:Option Addr)(c:Nat):Prop:= ∃F,ua w F l A c∧ ∀b,b∈F→S b
def RA(w:World)(a:α)(cs:List Value):Prop:=RS w (·<w.heap.size) a cs
def SA(w:World)(l:List α)(A:Option Addr)(c:Nat):Prop:=SS w (·<w.heap.size) l A c
theorem RS.an{w w':World}{S S':Nat→Prop}{a:α}{cs:List Value}(h:RS w S a cs)(hk: ∀b,S b→w'.heap[b]? =w.heap[b]?)(hs: ∀b,S b→S' b):RS w' S' a cs:=let⟨F,h1,h2⟩:=h;⟨F,aG.an h1 fun b hb=>hk b (h2 b hb),fun b hb=>hs b (h2 b hb)⟩
theorem SS.an{w w':World}{S S':Nat→Prop}{l:List α}{A:Option Addr}{c:Nat}(h:SS w S l A c)(hk: ∀b,S b→w'.heap[b]? =w.heap[b]?)(hs: ∀b,S b→S' b):SS w' S' l A c:=let⟨F,h1,h2⟩:=h;⟨F,h1.an fun b hb=>hk b (h2 b hb),fun b hb=>hs b (h2 b hb)⟩
theorem RA.below{w w':World}{a:α}{cs:List Value}(h:RA w a cs)(hb:Below w.heap.size w w'):RA w' a cs:=RS.an h (fun b h=>hb.block b h) (fun b h=>Nat.lt_of_lt_of_le h hb.size)
theorem SA.below{w w':World}{l:List α}{A:Option Addr}{c:Nat}(h:SA w l A c)(hb:Below w.heap.size w w'):SA w' l A c:=SS.an h (fun b h=>hb.block b h) (fun b h=>Nat.lt_of_lt_of_le h hb.size)
theorem SA.drew{w:World}{l:List α}{A:Option Addr}{c:Nat}(h:SA w l A c):SA w.drew l A c:=SS.an h (fun b h=>rfl) (fun b h=>h)
theorem SA.drewN{w:World}{l:List α}{A:Option Addr}{c:Nat}(h:SA w l A c)(n:Nat):SA (w.drewN n) l A c:=SS.an h (fun b h=>rfl) (fun b h=>h)
theorem RA.sa{w:World}{l:List α}{cs:List Value}(h:RA w l cs): ∃A c,cs=[.slice A l.length c]∧SA w l A c:=let⟨F,⟨A,c,h1,h2⟩,h3⟩:=h;⟨A,c,h1,F,h2,h3⟩
theorem SA.len{w:World}{l:List α}{A:Option Addr}{c:Nat}(h:SA w l A c):l.length≤c∧c≤maxLen:=let⟨_,h1,_⟩:=h;⟨h1.1,h1.2.1⟩
theorem SA.at{w:World}{l:List α}{A:Option Addr}{c:Nat}(h:SA w l A c){i:Nat}(hi:i<l.length): ∃b off cs,A=some ⟨b,off,none⟩∧b<w.heap.size∧RA w l[i] cs∧aZ w b (off+i*aG.wd α) cs:=by
 obtain⟨F,⟨h1,h2,h3⟩,hF⟩:=h;rcases h3 with⟨rfl,_⟩|⟨b,off,F',xs,hA,rfl,he,hc⟩;·simp at hi
 ·obtain⟨F1,cs,hr,hs,hx⟩:=he.get i hi;exact⟨b,off,cs,hA,hF b (List.mem_cons_self ..),⟨F1,hr,fun b hb=>hF b (List.mem_cons_of_mem _ (hs b hb))⟩,hc.sub hx⟩
end
theorem SA.kE{w:World}{l:List Int}{A:Option Addr}{c:Nat}(h:SA w l A c){i:Nat}(hi:i<l.length): ∃b off,A=some ⟨b,off,none⟩∧b<w.heap.size∧aX l[i]∧w.cell? ⟨b,off+i,none⟩=some (.int .i64 l[i]):=by
 obtain⟨b,off,cs,rfl,hb,⟨F,⟨_,rfl,hI⟩,_⟩,hc⟩:=h.at hi;exact⟨b,off,rfl,hb,hI,by simpa[aG.wd] using hc.c0⟩
theorem SA.byte_at{w:World}{l:List UInt8}{A:Option Addr}{c:Nat}(h:SA w l A c){i:Nat}(hi:i<l.length): ∃b off,A=some ⟨b,off,none⟩∧b<w.heap.size∧w.cell? ⟨b,off+i,none⟩=some (.int .u8 (l[i].toNat:Int)):=by
 obtain⟨b,off,cs,rfl,hb,⟨F,⟨_,rfl⟩,_⟩,hc⟩:=h.at hi;exact⟨b,off,rfl,hb,by simpa[aG.wd] using hc.c0⟩
theorem ab{a w:World}(h:Below a.heap.size a w)(o:Obj):Below a.heap.size a (w.alloc o):=h.alloc h.size o
theorem al{a w w':World}(h:Below a.heap.size a w)(h':Below w.heap.size w w'):Below a.heap.size a w':=h.trans (h'.mono h.size)
theorem af(a:World):Below a.heap.size a a:=Below.refl _ _
theorem ks{W w1:World}(hb:Below W.heap.size W w1):(∀b o,b<W.heap.size→w1.cell? ⟨b,o,none⟩=W.cell? ⟨b,o,none⟩)∧(∀b o,b<W.heap.size→w1.frozen? ⟨b,o,none⟩=W.frozen? ⟨b,o,none⟩):=⟨fun b o h=>hb.cell (p:=⟨b,o,none⟩) h,fun b o h=>hb.frozen (p:=⟨b,o,none⟩) h⟩
def ah(w:World)(g:Nat)(t:TypeId)(cs:Array Value):Prop:=w.heap[g]? =some (.cells cs t (0,0))
section
variable {w w' : World} {g : Nat} {t : TypeId} {cs : Array Value}
theorem ah.lt(h:ah w g t cs):g<w.heap.size:=by
 rcases Nat.lt_or_ge g w.heap.size with hlt|hge;·exact hlt
 ·unfold ah at h;rw[Array.getElem?_eq_none hge] at h;cases h
theorem ah.cell(h:ah w g t cs)(i:Nat):w.cell? ⟨g,i,none⟩=cs[i]? :=cell_of_row w g i cs t (0,0) h
theorem ah.frozen(h:ah w g t cs)(i:Nat):w.frozen? ⟨g,i,none⟩=false:=by
 unfold ah at h;simp[World.frozen?,h]
theorem ah.new(w:World)(t:TypeId)(cs:Array Value):ah (w.alloc (.cells cs t)) w.heap.size t cs:=heap_alloc_new w _
theorem ah.drew(h:ah w g t cs):ah w.drew g t cs:=h
theorem ah.drewN(h:ah w g t cs)(n:Nat):ah (w.drewN n) g t cs:=h
theorem ah.alloc(h:ah w g t cs)(o:Obj):ah (w.alloc o) g t cs:=(Below.heap_alloc w o g h.lt).trans h
theorem ah.cK(h:ah w g t cs)(i:Nat)(u:Value):ah (w.setCell ⟨g,i,none⟩ u) g t (cs.setIfInBounds i u):=by
 unfold ah at h ⊢;simp[World.setCell,Array.getElem?_modify,h]
theorem ah.pC(h:ah w g t cs){p:Addr}(hp:g≠p.block)(u:Value):ah (w.setCell p u) g t cs:=(Below.heap_setCell w p u g hp).trans h
theorem ah.below(h:ah w g t cs)(hb:Below w.heap.size w w'):ah w' g t cs:=(hb.block g h.lt).trans h
theorem ah.c1{a:Value}(h:ah w g t #[a]):w.cell? ⟨g,0,none⟩=some a:=h.cell 0
theorem ah.c2{a b:Value}(h:ah w g t #[a,b]):w.cell? ⟨g,0,none⟩=some a∧w.cell? ⟨g,1,none⟩=some b:=⟨h.cell 0,h.cell 1⟩
theorem ah.c3{a b c:Value}(h:ah w g t #[a,b,c]):w.cell? ⟨g,0,none⟩=some a∧w.cell? ⟨g,1,none⟩=some b∧w.cell? ⟨g,2,none⟩=some c:=⟨h.cell 0,h.cell 1,h.cell 2⟩
theorem ah.c5{a b c d e:Value}(h:ah w g t #[a,b,c,d,e]):w.cell? ⟨g,0,none⟩=some a∧w.cell? ⟨g,1,none⟩=some b∧w.cell? ⟨g,2,none⟩=some c∧w.cell? ⟨g,3,none⟩=some d∧w.cell? ⟨g,4,none⟩=some e:=⟨h.cell 0,h.cell 1,h.cell 2,h.cell 3,h.cell 4⟩
theorem ah.z5{a b c d e:Value}(h:ah w g t #[a,b,c,d,e]):w.frozen? ⟨g,0,none⟩=false∧w.frozen? ⟨g,1,none⟩=false∧w.frozen? ⟨g,2,none⟩=false∧w.frozen? ⟨g,3,none⟩=false∧w.frozen? ⟨g,4,none⟩=false∧w.cell? ⟨g,0,none⟩=some a∧w.cell? ⟨g,1,none⟩=some b∧w.cell? ⟨g,2,none⟩=some c∧w.cell? ⟨g,3,none⟩=some d∧w.cell? ⟨g,4,none⟩=some e∧g<w.heap.size:=⟨h.frozen 0,h.frozen 1,h.frozen 2,h.frozen 3,h.frozen 4,h.cell 0,h.cell 1,h.cell 2,h.cell 3,h.cell 4,h.lt⟩
theorem ah.f5(h:ah w g t cs):w.frozen? ⟨g,0,none⟩=false∧w.frozen? ⟨g,1,none⟩=false∧w.frozen? ⟨g,2,none⟩=false∧w.frozen? ⟨g,3,none⟩=false∧w.frozen? ⟨g,4,none⟩=false:=⟨h.frozen 0,h.frozen 1,h.frozen 2,h.frozen 3,h.frozen 4⟩
end

def Plain(w:World)(b:Nat):Prop:= ∃cs t,w.heap[b]? =some (.cells cs t (0,0))
theorem Plain.lt{w:World}{b:Nat}(h:Plain w b):b<w.heap.size:=by
 obtain⟨cs,t,h⟩:=h;rcases Nat.lt_or_ge b w.heap.size with hlt|hge;·exact hlt
 ·rw[Array.getElem?_eq_none hge] at h;cases h
theorem Plain.an{w w':World}{b:Nat}(h:Plain w b)(hk:w'.heap[b]? =w.heap[b]?):Plain w' b:=let⟨cs,t,h⟩:=h;⟨cs,t,hk.trans h⟩
def b7(base:Nat)(w:World)(F:List Nat):Prop:=F.Nodup∧ ∀b,b∈F→base≤b∧Plain w b
theorem b7.nil(base:Nat)(w:World):b7 base w []:=⟨List.nodup_nil,by simp⟩
theorem b7.an{base:Nat}{w w':World}{F:List Nat}(h:b7 base w F)(hk: ∀b,b∈F→w'.heap[b]? =w.heap[b]?):b7 base w' F:=⟨h.1,fun b hb=>⟨(h.2 b hb).1,(h.2 b hb).2.an (hk b hb)⟩⟩
theorem b7.below{base:Nat}{w w':World}{F:List Nat}(h:b7 base w F)(hb:Below w.heap.size w w'):b7 base w' F:=h.an fun b hm=>hb.block b (h.2 b hm).2.lt
theorem b7.mono{base base':Nat}{w:World}{F:List Nat}(h:b7 base w F)(hb:base'≤base):b7 base' w F:=⟨h.1,fun b hm=>⟨Nat.le_trans hb (h.2 b hm).1,(h.2 b hm).2⟩⟩
section
variable {α : Type} [aG α]
def RF(base:Nat)(w:World)(a:α)(cs:List Value):Prop:= ∃F,aG.rp w F a cs∧b7 base w F
def SF(base:Nat)(w:World)(l:List α)(A:Option Addr)(c:Nat):Prop:= ∃F,ua w F l A c∧b7 base w F
theorem RF.ra{base:Nat}{w:World}{a:α}{cs:List Value}(h:RF base w a cs):RA w a cs:=let⟨F,h1,h2⟩:=h;⟨F,h1,fun b hb=>(h2.2 b hb).2.lt⟩
theorem SF.sa{base:Nat}{w:World}{l:List α}{A:Option Addr}{c:Nat}(h:SF base w l A c):SA w l A c:=let⟨F,h1,h2⟩:=h;⟨F,h1,fun b hb=>(h2.2 b hb).2.lt⟩
theorem RF.below{base:Nat}{w w':World}{a:α}{cs:List Value}(h:RF base w a cs)(hb:Below w.heap.size w w'):RF base w' a cs:=let⟨F,h1,h2⟩:=h;⟨F,aG.an h1 fun b hm=>hb.block b (h2.2 b hm).2.lt,h2.below hb⟩
theorem SF.below{base:Nat}{w w':World}{l:List α}{A:Option Addr}{c:Nat}(h:SF base w l A c)(hb:Below w.heap.size w w'):SF base w' l A c:=let⟨F,h1,h2⟩:=h;⟨F,h1.an fun b hm=>hb.block b (h2.2 b hm).2.lt,h2.below hb⟩
theorem RF.mono{base base':Nat}{w:World}{a:α}{cs:List Value}(h:RF base w a cs)(hb:base'≤base):RF base' w a cs:=let⟨F,h1,h2⟩:=h;⟨F,h1,h2.mono hb⟩
theorem SF.mono{base base':Nat}{w:World}{l:List α}{A:Option Addr}{c:Nat}(h:SF base w l A c)(hb:base'≤base):SF base' w l A c:=let⟨F,h1,h2⟩:=h;⟨F,h1,h2.mono hb⟩
theorem b7.set{base:Nat}{w:World}{F:List Nat}(h:b7 base w F){p:Addr}(hp:p.block<base)(u:Value):b7 base (w.setCell p u) F:=h.an fun b hm=>Below.heap_setCell w p u b (fun e=>by have:=(h.2 b hm).1;omega)
theorem RF.set{base:Nat}{w:World}{a:α}{cs:List Value}(h:RF base w a cs){p:Addr}(hp:p.block<base)(u:Value):RF base (w.setCell p u) a cs:=let⟨F,h1,h2⟩:=h;⟨F,aG.an h1 fun b hm=>Below.heap_setCell w p u b (fun e=>by have:=(h2.2 b hm).1;omega),h2.set hp u⟩
theorem SF.set{base:Nat}{w:World}{l:List α}{A:Option Addr}{c:Nat}(h:SF base w l A c){p:Addr}(hp:p.block<base)(u:Value):SF base (w.setCell p u) l A c:=let⟨F,h1,h2⟩:=h;⟨F,h1.an fun b hm=>Below.heap_setCell w p u b (fun e=>by have:=(h2.2 b hm).1;omega),h2.set hp u⟩
def bg(w:World)(g off:Nat):List Value→World|[]=>w|c::cs=>bg (w.setCell ⟨g,off,none⟩ c) g (off+1) cs
def cY(w:World)(base:Nat)(t:TypeId)(v:Value)(l:List α)(F:List Nat):Prop:= ∃xs,w.ownsRow base t (aG.wd α) v l.length xs∧aH w l F xs∧ ∀g,v.ownBlock=some g→g∉F
def aC(w:World)(base:Nat)(t:TypeId)(v:Value)(l:List α):Prop:= ∃F,cY w base t v l F∧b7 base w F
def px(w:World)(base:Nat)(t:TypeId)(v:Value)(l:List α):Prop:= ∃F,cY w base t v l F∧ ∀b,b∈F→b<w.heap.size
theorem oi{w w':World}{base:Nat}{t:TypeId}{size n:Nat}{v:Value}{xs:List Value}(h:w.ownsRow base t size v n xs)(hb:Below w.heap.size w w'):w'.ownsRow base t size v n xs:=h.kept (row:=none) ⟨hb.os,hb.tape,hb.output,hb.size,fun k hk _=>hb.block k hk⟩ (by cases h':v.ownBlock<;>simp)
theorem cY.below{w w':World}{base:Nat}{t:TypeId}{v:Value}{l:List α}{F:List Nat}(h:cY w base t v l F)(hF: ∀b,b∈F→b<w.heap.size)(hb:Below w.heap.size w w'):cY w' base t v l F:=let⟨xs,h1,h2,h3⟩:=h;⟨xs,oi h1 hb,h2.an fun b hm=>hb.block b (hF b hm),h3⟩
theorem aC.below{w w':World}{base:Nat}{t:TypeId}{v:Value}{l:List α}(h:aC w base t v l)(hb:Below w.heap.size w w'):aC w' base t v l:=let⟨F,h1,h2⟩:=h;⟨F,h1.below (fun b hm=>(h2.2 b hm).2.lt) hb,h2.below hb⟩
theorem px.below{w w':World}{base:Nat}{t:TypeId}{v:Value}{l:List α}(h:px w base t v l)(hb:Below w.heap.size w w'):px w' base t v l:=let⟨F,h1,h2⟩:=h;⟨F,h1.below h2 hb,fun b hm=>Nat.lt_of_lt_of_le (h2 b hm) hb.size⟩
theorem aC.a{w:World}{base:Nat}{t:TypeId}{v:Value}{l:List α}(h:aC w base t v l):px w base t v l:=let⟨F,h1,h2⟩:=h;⟨F,h1,fun b hm=>(h2.2 b hm).2.lt⟩
theorem aC.nN(w:World)(base:Nat)(t:TypeId):aC (α:=α) w base t (.slice none 0 0) []:=⟨[],⟨[],World.ownsRow_nil w base t _,⟨rfl,rfl⟩,by simp⟩,b7.nil _ _⟩
theorem cY.form{w:World}{base:Nat}{t:TypeId}{v:Value}{l:List α}{F:List Nat}(h:cY w base t v l F): ∃A c,v=.slice A l.length c:=by
 obtain⟨xs,⟨_,h1⟩,_⟩:=h;rcases h1 with⟨rfl,hn⟩|⟨g,cap,cur,rfl,_⟩;·exact⟨none,0,by rw[hn]⟩
 ·exact⟨_,_,rfl⟩
theorem aC.form{w:World}{base:Nat}{t:TypeId}{v:Value}{l:List α}(h:aC w base t v l): ∃A c,v=.slice A l.length c:=h.choose_spec.1.form
theorem cY.xL{w:World}{base:Nat}{t:TypeId}{A:Option Addr}{n c:Nat}{l:List α}{F:List Nat}(h:cY w base t (.slice A n c) l F):n=l.length∧ ∃F',ua w F' l A c∧(F'=[]∨ ∃g,A=some ⟨g,0,none⟩∧F'=g::F∧base≤g∧Plain w g∧g∉F):=by
 obtain⟨xs,hown,he,hg⟩:=h;have hown':=hown;obtain⟨h0,h1⟩:=hown';rcases h1 with⟨hv,hn⟩|⟨g,cap,cur,hv,hb,hh,hn,hm,hs,ht⟩;·injection hv with e1 e2 e3;subst e1 e2 e3;have:l=[]:=List.eq_nil_of_length_eq_zero hn;subst this;exact⟨rfl,[],⟨by simp,by simp,.inl ⟨rfl,rfl,fun _=>rfl⟩⟩,.inl rfl⟩
 ·injection hv with e1 e2 e3;subst e1 e2 e3;refine⟨rfl,g::F,⟨hn,hm,.inr ⟨g,0,F,xs,rfl,rfl,he,fun j v hj=> ?_⟩⟩,.inr ⟨g,rfl,rfl,hb,⟨_,_,hh⟩,hg g rfl⟩⟩;have hl:j<xs.length:=(List.getElem?_eq_some_iff.1 hj).1;rw[Nat.zero_add,hown.cellAt j (by rw[←h0];exact hl)];exact hj
theorem aC.sf{w:World}{base:Nat}{t:TypeId}{A:Option Addr}{n c:Nat}{l:List α}(h:aC w base t (.slice A n c) l):n=l.length∧SF base w l A c:=by
 obtain⟨F,h1,h2⟩:=h;obtain⟨hn,F',h3,h4⟩:=h1.xL;refine⟨hn,F',h3,?_⟩;rcases h4 with rfl|⟨g,_,rfl,h5,h6,h7⟩;·exact b7.nil _ _
 ·refine⟨List.nodup_cons.2 ⟨h7,h2.1⟩,fun b hb=> ?_⟩;rcases List.mem_cons.1 hb with rfl|hb;·exact⟨h5,h6⟩
  ·exact h2.2 b hb
end
end
section
theorem bp(g:Nat): ∀(cs:List Value)(w:World)(off:Nat)(b:Nat),b≠g→(bg w g off cs).heap[b]? =w.heap[b]? |[],_,_,_,_=>rfl|c::cs,w,off,b,hb=>(bp g cs _ (off+1) b hb).trans (Below.heap_setCell w ⟨g,off,none⟩ c b hb)
theorem ca(g:Nat): ∀(cs:List Value)(w:World)(off:Nat),(bg w g off cs).heap.size=w.heap.size|[],_,_=>rfl|c::cs,w,off=>(ca g cs _ (off+1)).trans (by simp[World.setCell])
theorem iy(g:Nat): ∀(cs:List Value)(w:World)(off:Nat),(bg w g off cs).os=w.os∧(bg w g off cs).tape=w.tape∧(bg w g off cs).output=w.output|[],_,_=>⟨rfl,rfl,rfl⟩|c::cs,w,off=>iy g cs (w.setCell ⟨g,off,none⟩ c) (off+1)
def ml:List Value→Nat→List Value→List Value|xs,_,[]=>xs|xs,off,c::cs=>ml (xs.set off c) (off+1) cs
theorem oX: ∀(cs xs:List Value)(off:Nat),off+cs.length≤xs.length→ml xs off cs=xs.take off++(cs++xs.drop (off+cs.length))|[],xs,off,h=>by simp[ml]|c::cs,xs,off,h=>by rw[ml,oX cs _ (off+1) (by simp at h ⊢;omega)];(have hlt:off<xs.length:=by simp at h;omega);rw[List.take_set,List.take_succ_eq_append_getElem hlt,List.set_append_right _ _ (by simp;omega)];rw[List.drop_set_of_lt (by omega)];simp only[List.length_take,List.length_cons];rw[Nat.min_eq_left (by omega)];simp[Nat.add_assoc,Nat.add_comm 1]
theorem ie{base:Nat}{t:TypeId}{size n g c:Nat}: ∀(cs xs:List Value)(w:World)(off:Nat),w.ownsRow base t size (.slice (some ⟨g,0,none⟩) n c) n xs→(bg w g off cs).ownsRow base t size (.slice (some ⟨g,0,none⟩) n c) n (ml xs off cs)|[],_,_,_,h=>h|u::cs,xs,w,off,h=>ie cs _ _ (off+1) (h.stored off u).1
section
variable {α : Type} [aG α]
theorem aH.set{w:World}{a:α}{F':List Nat}{cs:List Value}(hr:aG.rp w F' a cs): ∀{l:List α}{F:List Nat}{xs:List Value},aH w l F xs→ ∀i,i<l.length→ ∃F1 F2 F3,F=F1++(F2++F3)∧aH w (l.set i a) (F1++(F'++F3)) (xs.take (i*aG.wd α)++(cs++xs.drop (i*aG.wd α+cs.length)))|[],_,_,_,i,hi=>absurd hi (by simp)|a0::l,_,_,⟨G1,G2,cs0,ys,hF,hx,hr0,he⟩,i,hi=>by subst hF hx;have hl:cs.length=aG.wd α:=aG.len hr;have hl0:cs0.length=aG.wd α:=aG.len hr0;cases i with|zero=>refine⟨[],G1,G2,rfl,F',G2,cs,ys,by simp,?_,hr,he⟩;rw[Nat.zero_mul,List.take_zero,List.nil_append,Nat.zero_add,hl,←hl0,List.drop_left]|succ i=>obtain⟨F1,F2,F3,hF,he'⟩:=aH.set hr he i (by simpa using hi);subst hF;refine⟨G1++F1,F2,F3,by simp,G1,F1++(F'++F3),cs0,_,by simp,?_,hr0,he'⟩;(have e:(i+1)*aG.wd α=cs0.length+i*aG.wd α:=by rw[hl0,Nat.add_mul];omega);rw[e,List.take_append,List.take_of_length_le (by omega),Nat.add_sub_cancel_left,Nat.add_assoc,List.drop_append,List.drop_of_length_le (by omega),List.nil_append,Nat.add_sub_cancel_left,List.append_assoc]
theorem cY.stored {w : World} {base : Nat} {t : TypeId} {g n c : Nat} {l : List α} {F F' : List Nat} (h : cY w base t (.slice (some ⟨g, 0, none⟩) n c) l F) {i : Nat} (hi : i < l.length) {a : α} {cs : List Value}
    (hr : aG.rp w F' a cs) (hg : g ∉ F') : ∃ F1 F2 F3, F = F1 ++ (F2 ++ F3) ∧ cY (bg w g (i * aG.wd α) cs) base t (.slice (some ⟨g, 0, none⟩) n c) (l.set i a) (F1 ++ (F' ++ F3)) := by
  obtain ⟨xs, h1, h2, h3⟩ := h
  have hn : n = l.length := by
    rcases h1.2 with ⟨hv, _⟩ | ⟨_, _, _, hv, _⟩
    · cases hv
    · injection hv
  subst hn
  obtain ⟨F1, F2, F3, hF, he⟩ := aH.set hr h2 i hi
  have hg1 : g ∉ F := h3 g rfl
  have hg2 : g ∉ F1 ++ (F' ++ F3) := by
    subst hF
    simp only [List.mem_append, not_or] at hg1 ⊢
    exact ⟨hg1.1, hg, hg1.2.2⟩
  have hlen := h2.len
  have hcl : cs.length = aG.wd α := aG.len hr
  have hle : i * aG.wd α + cs.length ≤ xs.length := by
    rw [hlen, hcl]
    calc i * aG.wd α + aG.wd α = (i + 1) * aG.wd α := by rw [Nat.add_mul, Nat.one_mul]
      _ ≤ l.length * aG.wd α := Nat.mul_le_mul_right _ hi
  refine ⟨F1, F2, F3, hF, _, by rw [List.length_set]; exact ie cs xs w _ h1, ?_, fun g' hg' => ?_⟩
  · rw [oX cs xs _ hle]
    exact he.an fun b hb => bp g cs w _ b (fun e => hg2 (e ▸ hb))
  · simp only [Value.ownBlock, Option.some.injEq] at hg'
    exact hg' ▸ hg2
theorem cY.facts {w : World} {base : Nat} {t : TypeId} {g n c : Nat} {l : List α} {F : List Nat} (h : cY w base t (.slice (some ⟨g, 0, none⟩) n c) l F) {i j : Nat} (hi : i < l.length) (hj : j < aG.wd α) :
    (∃ u, w.cell? ⟨g, i * aG.wd α + j, none⟩ = some u) ∧ w.frozen? ⟨g, i * aG.wd α + j, none⟩ = false := by
  obtain ⟨xs, h1, h2, h3⟩ := h
  have hn : n = l.length := by
    rcases h1.2 with ⟨hv, _⟩ | ⟨_, _, _, hv, _⟩
    · cases hv
    · injection hv
  subst hn
  have hlt : i * aG.wd α + j < l.length * aG.wd α := by
    calc i * aG.wd α + j < i * aG.wd α + aG.wd α := by omega
      _ = (i + 1) * aG.wd α := by rw [Nat.add_mul, Nat.one_mul]
      _ ≤ l.length * aG.wd α := Nat.mul_le_mul_right _ hi
  refine ⟨?_, h1.frozenAt _⟩
  rw [h1.cellAt _ hlt]
  exact ⟨_, List.getElem?_eq_getElem (by rw [h2.len]; exact hlt)⟩
theorem cY.at{w:World}{base:Nat}{t:TypeId}{g n c:Nat}{l:List α}{F:List Nat}(h:cY w base t (.slice (some ⟨g,0,none⟩) n c) l F){i:Nat}(hi:i<l.length): ∃F' cs,aG.rp w F' l[i] cs∧(∀b,b∈F'→b∈F)∧aZ w g (i*aG.wd α) cs:=by
 obtain⟨hn,F0,hs,h4⟩:=h.xL;obtain⟨xs,h1,h2,h3⟩:=h;subst hn;obtain⟨F',cs,hr,hs',hx⟩:=h2.get i hi;refine⟨F',cs,hr,hs',fun j v hj=> ?_⟩;have hj':=hx j v hj;have hl:i*aG.wd α+j<xs.length:=(List.getElem?_eq_some_iff.1 hj').1;rw[h1.cellAt _ (by rw[←h2.len];exact hl)];exact hj'
theorem cY.lt{w:World}{base:Nat}{t:TypeId}{g n c:Nat}{l:List α}{F:List Nat}(h:cY w base t (.slice (some ⟨g,0,none⟩) n c) l F):base≤g∧g<w.heap.size:=let⟨_,h1,_⟩:=h;h1.lt g rfl
theorem aC.lt{w:World}{base:Nat}{t:TypeId}{g n c:Nat}{l:List α}(h:aC w base t (.slice (some ⟨g,0,none⟩) n c) l):base≤g∧g<w.heap.size:=let⟨_,h1,_⟩:=h;h1.lt
theorem cY.grown{w w':World}{base:Nat}{t:TypeId}{v v':Value}{l ys:List α}{F F':List Nat}{xs news:List Value}(h2:aH w l F xs)(h3: ∀g,v.ownBlock=some g→g∉F)(hel:aH w ys F' news)(hF: ∀g,v.ownBlock=some g→g∉F')(hlt: ∀b,b∈F++F'→b<w.heap.size)(ho:w'.ownsRow base t (aG.wd α) v' (l.length+ys.length) (xs++news))(hg:w.grownBy w' v.ownBlock)(hat:v'.ownBlock=v.ownBlock∨v'.ownBlock=some w.heap.size):cY w' base t v' (l++ys) (F++F'):=by
 have hne: ∀g,v.ownBlock=some g→g∉F++F':=fun g hg=>by simp only[List.mem_append,not_or];exact⟨h3 g hg,hF g hg⟩
 refine⟨xs++news,by rw[List.length_append];exact ho,(h2.append hel).an fun b hb=>hg.block b (hlt b hb) (fun e=>hne b e.symm hb),fun g hgv=> ?_⟩;rcases hat with e|e;·exact hne g (e▸hgv)
 ·rw[e] at hgv;injection hgv with hgv;intro hm;have:=hlt g hm;omega
end
end
structure GStep where
  at_ : Int
  name : Bool
  deriving DecidableEq, Inhabited
instance : aG GStep where
  wd := 2
  rp := fun _ F s cs => F = [] ∧ cs = [.int .i64 s.at_, .bool s.name] ∧ aX s.at_
  len := by rintro _ _ _ _ ⟨_, rfl, _⟩; rfl
  one := by rintro _ _ _ _ ⟨_, rfl, _⟩ u hu; simp at hu; rcases hu with rfl | rfl <;> rfl
  an := fun h _ => h
structure ag where
  kind : Int
  p : List GStep
  deriving DecidableEq, Inhabited
instance : aG ag where
  wd := 2
  rp := fun w F x cs => ∃ A c, cs = [.int .i64 x.kind, .slice A x.p.length c] ∧ aX x.kind ∧ ua w F x.p A c
  len := by rintro _ _ _ _ ⟨_, _, rfl, _⟩; rfl
  one := by rintro _ _ _ _ ⟨_, _, rfl, _⟩ u hu; simp at hu; rcases hu with rfl | rfl <;> rfl
  an := by rintro _ _ _ _ _ ⟨A, c, rfl, hI, h⟩ hk; exact ⟨A, c, rfl, hI, h.an hk⟩
structure xB where
  b : List UInt8
  l : List ag
  code : Int
  deriving DecidableEq, Inhabited
instance : aG xB where
  wd := 3
  rp := fun w F x cs => ∃ A c A' c' F1 F2, F = F1 ++ F2 ∧ cs = [.slice A x.b.length c, .slice A' x.l.length c', .int .i64 x.code] ∧ aX x.code ∧ ua w F1 x.b A c ∧ ua w F2 x.l A' c'
  len := by rintro _ _ _ _ ⟨_, _, _, _, _, _, _, rfl, _⟩; rfl
  one := by rintro _ _ _ _ ⟨_, _, _, _, _, _, _, rfl, _⟩ u hu; simp at hu; rcases hu with rfl | rfl | rfl <;> rfl
  an := by
    rintro _ _ _ _ _ ⟨A, c, A', c', F1, F2, rfl, rfl, hI, h1, h2⟩ hk
    exact ⟨A, c, A', c', F1, F2, rfl, rfl, hI, h1.an fun b hb => hk b (List.mem_append_left _ hb), h2.an fun b hb => hk b (List.mem_append_right _ hb)⟩
theorem aX.zero:aX 0:=⟨by omega,by omega⟩
theorem SA.fI{w:World}{l:List GStep}{A:Option Addr}{c:Nat}(h:SA w l A c){i:Nat}(hi:i<l.length): ∃b off,A=some ⟨b,off,none⟩∧b<w.heap.size∧aX l[i].at_∧w.cell? ⟨b,off+i*2,none⟩=some (.int .i64 l[i].at_)∧w.cell? ⟨b,off+i*2+1,none⟩=some (.bool l[i].name):=by
 obtain⟨b,off,cs,rfl,hb,⟨F,⟨_,rfl,hI⟩,_⟩,hc⟩:=h.at hi;exact⟨b,off,rfl,hb,hI,hc.c0,hc.c1⟩
theorem SA.vL{w:World}{l:List ag}{A:Option Addr}{c:Nat}(h:SA w l A c){i:Nat}(hi:i<l.length): ∃b off A' c',A=some ⟨b,off,none⟩∧b<w.heap.size∧aX l[i].kind∧SA w l[i].p A' c'∧w.cell? ⟨b,off+i*2,none⟩=some (.int .i64 l[i].kind)∧w.cell? ⟨b,off+i*2+1,none⟩=some (.slice A' l[i].p.length c'):=by
 obtain⟨b,off,cs,rfl,hb,⟨F,⟨A',c',rfl,hI,hs⟩,hF⟩,hc⟩:=h.at hi;exact⟨b,off,A',c',rfl,hb,hI,⟨F,hs,hF⟩,hc.c0,hc.c1⟩
theorem RF.step{base:Nat}{w:World}(s:GStep)(h:aX s.at_):RF base w s [.int .i64 s.at_,.bool s.name]:=⟨[],⟨rfl,rfl,h⟩,b7.nil _ _⟩
theorem RF.byte{base:Nat}{w:World}(b:UInt8):RF base w b [.int .u8 (b.toNat:Int)]:=⟨[],⟨rfl,rfl⟩,b7.nil _ _⟩
theorem RF.int{base:Nat}{w:World}(n:Int)(h:aX n):RF base w n [.int .i64 n]:=⟨[],⟨rfl,rfl,h⟩,b7.nil _ _⟩
theorem RF.lR{base:Nat}{w:World}{x:ag}{A:Option Addr}{c:Nat}(h:aX x.kind)(hs:SF base w x.p A c):RF base w x [.int .i64 x.kind,.slice A x.p.length c]:=let⟨F,h1,h2⟩:=hs;⟨F,⟨A,c,rfl,h,h1⟩,h2⟩
def dt(x:ag):Nat:=x.p.length
def bV(l:List ag):Nat:=l.length+(l.map dt).sum
theorem dM{α:Type}(f:α→Nat): ∀(l:List α){k:Nat}(h:k<l.length),f l[k]≤(l.map f).sum|[],_,h=>absurd h (by simp)|a::l,0,_=>by simp|a::l,k+1,h=>by have:=dM f l (k:=k) (by simpa using h);simp only[List.getElem_cons_succ,List.map_cons,List.sum_cons];omega
theorem pg{α:Type}{xs ys:List α}{k:Nat}(hx:k<xs.length)(hy:k<ys.length)(h:xs.take k=ys.take k)(e:xs[k]=ys[k]):xs.take (k+1)=ys.take (k+1):=by
 rw[List.take_succ_eq_append_getElem hx,List.take_succ_eq_append_getElem hy,h,e]
theorem qK{α:Type}{xs ys:List α}{k:Nat}(hk:k=xs.length)(hl:xs.length=ys.length)(h:xs.take k=ys.take k):xs=ys:=by
 rw[hk,List.take_length,hl,List.take_length] at h;exact h
theorem oT{α:Type}{f:α→Bool}{l:List α}{k:Nat}(hk:k<l.length)(h:(l.take k).any f=false)(e:f l[k]=false):(l.take (k+1)).any f=false:=by
 rw[List.take_succ_eq_append_getElem hk,List.any_append,h];simp[e]
def idxOf{α:Type}(f:α→Bool)(l:List α):Int:=match l.findIdx? f with|some i=>i|none=> -1
theorem idxOf_hit{α:Type}{f:α→Bool}{l:List α}{k:Nat}(hk:k<l.length)(h:(l.take k).any f=false)(e:f l[k]=true):idxOf f l=k:=by
 have:l.findIdx? f=some k:=by rw[List.findIdx?_eq_some_iff_getElem];refine⟨hk,e,fun j hj=> ?_⟩;(have hjl:j<(l.take k).length:=by simp;omega);have:=List.any_eq_false.1 h _ (List.getElem_mem hjl);simpa using this
 simp[idxOf,this]
theorem oE{α:Type}{f:α→Bool}{l:List α}{k:Nat}(hk:k=l.length)(h:(l.take k).any f=false):idxOf f l= -1:=by
 have:l.findIdx? f=none:=by rw[List.findIdx?_eq_none_iff];rw[hk,List.take_length] at h;intro x hx;simpa using List.any_eq_false.1 h x hx
 simp[idxOf,this]
def cd(w:World)(v:Value)(e:Ending)(w':World):Prop:=e=.returned v∧Below w.heap.size w w'
def xm{α:Type}[aG α](w:World)(l:List α)(e:Ending)(w':World):Prop:= ∃A c,e=.returned (.slice A l.length c)∧SF w.heap.size w' l A c∧Below w.heap.size w w'
theorem eG:(Tryz.prog.info? 86).map (fun i=>(i.zero,i.size,i.bytes))=some (some (.agg #[.int .i64 0,.bool false]),2,16):=by
 kernel_rfl
theorem bh:(Tryz.prog.info? 62).map (fun i=>(i.zero,i.size,i.bytes))=some (some (.agg #[.int .i64 0,.slice none 0 0]),2,32):=by
 kernel_rfl
theorem b9:(Tryz.prog.info? 27).map (fun i=>(i.zero,i.size,i.bytes))=some (some (.agg #[.int .i64 0,.int .i64 0,.int .i64 0,.string .empty,.slice none 0 0]),5,64):=by
 kernel_rfl
end Go.Proofs.YtodpdjehjllhdaaGreatDoor
