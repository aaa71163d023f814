/- Part of TopMembers. -/
import Derived.Test.YtfddbnmfllgifaaGreatDoorA21
import Derived.Test.YtfddbnmfllgifaaGreatDoorA24
set_option linter.unusedVariables false
set_option linter.unusedSimpArgs false
set_option maxHeartbeats 64000000
set_option maxRecDepth 100000
namespace Go.Proofs.YtfddbnmfllgifaaGreatDoor
open Go.RowKit Cod
theorem DR{P:Program}{w:World}{d:Nat}{xs ys:Array Value}{nm:String}{ty:TypeId}{off:Nat}{e:Bool}{tg pk:String}{bo:Nat}{fs:List Field}{va vb:Value}{r:Bool}(hn:nm≠ "_")
 (ha:(part ty xs off).run P w=.ok va w) (hb:(part ty ys off).run P w=.ok vb w) (hr:(Op.equalIn d ty va vb).run P w=.ok r w):
 (Op.eqFields d xs ys (⟨nm,ty,off,e,tg,pk,bo⟩::fs)).run P w=if r then(Op.eqFields d xs ys fs).run P w else .ok false w:=by
 simp only[Op.eqFields,Sem.run_ite,Sem.run_bind];rw[if_pos hn,ha,Result.andThen_ok,hb,Result.andThen_ok,hr,Result.andThen_ok];cases r<;>simp only[Bool.not_false,Bool.not_true,if_true,if_false,Sem.run_pure,Sem.run_ite,Bool.false_eq_true]
theorem WS{P:Program}{w:World}{d:Nat}{xs ys:Array Value}:(Op.eqFields d xs ys []).run P w=.ok true w:=rfl
section
variable {α:Type}
def ax(T:TypeId)(s:Nat)(c:α→Nat→Value)(w:World)(base:Nat)(v:Value)(l:List α):Prop:=w.ownsRow base T s v l.length (bJ s c l)
variable {T:TypeId}{s:Nat}{c:α→Nat→Value}{w w':World}{base:Nat}{v:Value}{l:List α}
theorem ax.nil(w:World)(base:Nat):ax T s c w base (.slice none 0 0) []:=World.ownsRow_nil _ _ _ _
theorem ax.slice(h:ax T s c w base v l):∃(a:Option Addr) (k:Nat),v=.slice a l.length k:=by
 rcases h.2 with⟨rfl,h3⟩ | ⟨g,cap,cur,rfl,_⟩
 · exact⟨none,0,by rw[h3]⟩
 · exact⟨_,_,rfl⟩
theorem ax.below(h:ax T s c w base v l)(b:Below w.heap.size w w'):ax T s c w' base v l:=
 World.ownsRow.kept h (row:=none) ⟨b.os,b.tape,b.output,b.size,fun k hk _=>b.block k hk⟩ (by cases v.ownBlock<;>simp)
theorem ax.mono{base':Nat}(h:ax T s c w base v l)(hb:base'≤base):ax T s c w base' v l:=qh h hb
theorem ax.lt(h:ax T s c w base v l):∀b,v.ownBlock=some b→base≤b∧b < w.heap.size:=World.ownsRow.lt h
theorem ax.app{u u':Value}(h:ax T s c w base v l)(s1:ay w u w' u')(ae:v.ownBlock=none∨v.ownBlock≠u.ownBlock):ax T s c w' base v l:=World.ownsRow.kept h s1.1 ae
theorem ax.only {B:Nat}(h:ax T s c w base v l)(o:aG B w w')(ae:∀b,v.ownBlock=some b→b≠B):ax T s c w' base v l:=
 World.ownsRow.kept h (row:=some B) ⟨o.os,o.tape,o.output,o.size,fun k hk hn=>o.block k hk (fun e=>hn (by rw[e]))⟩ (by
  cases hb:v.ownBlock with
  | none=>exact .inl rfl
  | some b=>exact .inr (fun e=>ae b hb (Yx e)))
theorem ax.at'(d:α)(hs:0 < s)(ae:s≤1000)(h:ax T s c w base v l)(hn:l.length≤1000000):aN s w v l.length (fun i=>c (l.getD i d)):=by
 rcases h.2 with⟨rfl,h3⟩ | ⟨g,cap,cur,rfl,hb,hg,hle,hm,hz,ht⟩
 · exact .inl ⟨⟨none,0,rfl,fun _=>rfl⟩,h3⟩
 · by_cases h0:l.length=0
   · exact .inl ⟨⟨_,cap,by rw[h0],fun h=>by cases h⟩,h0⟩
   · unfold maxLen at hm;have af:s*l.length≤1000*1000000:=Nat.mul_le_mul ae hn;refine .inr ⟨g,0,cap,rfl,hle,by omega,⟨by omega,by omega⟩,(Yi.1 hg).1,fun i hi j hj=>?_⟩;have h4:=World.ownsRow.cells h (g:=g) rfl (s*i+j) _ (dE d l i j hi hj)
     rw[Addr.add_mid,Nat.add_assoc]at *
     simpa using h4
theorem ax.one{B:Nat}{a:α}(hs:0 < s)(h:ag w B T s (c a)):ax T s c w B (.slice (some ⟨B,0,none⟩) 1 1) [a]:=by
 have e:bJ s c [a]=(List.range s).map (c a):=(by simp[bJ]);refine⟨by rw[e];simp,.inr ⟨B,1,ah s (c a),rfl,Ya _,h,Ya _,by decide,by rw[bz];simp,?_⟩⟩;rw[e];show((List.range s).map (c a)).take (([a]:List α).length*s)=_;rw[Yj,Nat.one_mul,Yq (by simp)]
theorem pG(l m:List α):bJ s c (l++m)=bJ s c l++bJ s c m:=by unfold bJ;rw[List.flatMap_append]
theorem bH{z:Value}{bytes:Nat}{t:TypeId}{ops:Array Oper}{rest:List Oper}{o:Oper}{a:Act}{Q:Exit→Act→World→Prop}(af:o.guard=none)(x y:Operand)
 (hinfo:(Tryz.prog.info? T).map (fun i=>(i.zero,i.size,i.bytes))=some (some z,s,bytes)) (ht:Tryz.prog.underlying t=some (.slice T)) (hz:z.cells.size=s) (hs:0 < s) (ag:bytes≤1000) (h1:∀u j,(c u j).oneCell'=true) (d:α)
 (ho:o.op=.call {callee:=.builtin .append,args:= #[x,y],argTypes:= #[t,t]})
 (base:Nat) (v:Value) (l:List α) (hx:a.eval x=v) (ae:ax T s c w base v l) (g2 c2:Nat) (l2:List α) (hy:a.eval y=.slice (some ⟨g2,0,none⟩) l2.length c2)
 (hc:∀i,i < l2.length→∀j,j < s→w.cell? ⟨g2,s*i+j,none⟩=some (c (l2.getD i d) j)) (hlen:l.length+l2.length≤1000000) (hbase:base≤w.heap.size)
 (h:∀v' w',Hid (ax T s c w' base v' (l++l2))→Hid (ay w v w' v')→wpList Tryz.prog ops Q rest (a.put o.dst v') w'):wpList Tryz.prog ops Q (o::rest) a w:=by
 obtain⟨i0,hi,ah,ai,aj⟩:=gV hinfo;refine jh af x y t ho base T i0 z s bytes ht hi ah ai aj hz hs v l.length (bJ s c l) hx ae ⟨g2,0,none⟩ l2.length c2 (bJ s c l2) hy (bI l2) ?_ ?_ (by unfold maxLen;omega) (Yc (Nat.mul_le_mul hlen ag) (by decide)) hbase ?_
 · intro j u hj;have ak:j < l2.length*s:=(by have :=(Ys.1 hj).1;rwa[bI]at this);have hi:j / s < l2.length:=(Nat.div_lt_iff_lt_mul hs).2 ak;have hm:j % s < s:=Nat.mod_lt _ hs;have e:=Nat.div_add_mod j s;have hg:=dE d (s:=s) (c:=c) l2 (j / s) (j % s) hi hm;rw[e]at hg;rw[Addr.add_mid,Yl,←e,hc _ hi _ hm,←hj];exact hg.symm
 · intro u hu;unfold bJ at hu;obtain⟨b,_,hb⟩:=List.mem_flatMap.1 hu;obtain⟨j,_,rfl⟩:=Yo.1 hb;exact h1 _ _
 · intro v' w' h3 h4;refine h v' w' ?_ h4;unfold Hid ax;rw[Yf,pG];exact h3
end
def bC(z:Int)(_:Nat):Value:=.int .i64 z
end Go.Proofs.YtfddbnmfllgifaaGreatDoor
