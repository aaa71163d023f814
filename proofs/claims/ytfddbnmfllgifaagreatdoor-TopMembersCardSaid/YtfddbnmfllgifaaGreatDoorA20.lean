/- Part of TopMembers. -/
import Derived.Test.YtfddbnmfllgifaaGreatDoorA4
import Derived.Test.YtfddbnmfllgifaaGreatDoorA8
import Derived.Test.YtfddbnmfllgifaaGreatDoorA15
import Derived.Shelf.Abstract
import Derived.WideMake
set_option linter.unusedVariables false
set_option linter.unusedSimpArgs false
set_option maxHeartbeats 64000000
namespace Go.Proofs.YtfddbnmfllgifaaGreatDoor
open Go.RowKit
open Sha (Wd St)
theorem dw.alloc{w:World}{base:Nat}{v:Value}{l:List UInt8}(h:dw w base v l)(o:Obj):dw (w.alloc o) base v l:=h.below (Below.alloc (Yb _ _) (Ya _) o)
theorem dw.empty(w:World){base:Nat}(hb:base≤w.heap.size):dw (w.alloc (.cells #[] 5)) base (.slice (some ⟨w.heap.size,0,none⟩) 0 0) []:=
 World.ownsRow_made w #[] 0 hb (by unfold maxLen;omega) rfl
theorem one_byte(w:World)(x:UInt8):BytesAt (w.alloc (.cells #[vB x] 5)) (.slice (some ⟨w.heap.size,0,none⟩) 1 1) [x]:=
 ag.kG (l:=[x]) (ag.new w 5 1 (fun i=>vB ([x].getD i 0))) rfl (by decide) (by decide)
theorem Ti(n:Nat){k:Nat}(h:k < 8):(Sha.be8 n).take k++[jG n (7 - k)]=(Sha.be8 n).take (k+1):=by
 rw[List.take_succ_eq_append_getElem (by simpa[Sha.be8]using h)];congr 2;have :=Sha.Le n h;obtain⟨_,h2⟩:=Ys.1 this;rw[h2];rfl
end Go.Proofs.YtfddbnmfllgifaaGreatDoor
namespace Go.Proofs.YtfddbnmfllgifaaGreatDoor
open Go.RowKit
def ay(w:World)(v:Value)(w':World)(v':Value):Prop:=w.grownBy w' v.ownBlock∧(v'.ownBlock=v.ownBlock∨∀k,v'.ownBlock=some k→w.heap.size≤k)
theorem ay.refl(w:World)(v:Value):ay w v w v:=⟨⟨rfl,rfl,rfl,Ya _,fun _ _ _=>rfl⟩,.inl rfl⟩
theorem ay.trans{a b c:World}{u v x:Value}(h:ay a u b v)(k:ay b v c x):ay a u c x:=by
 obtain⟨h1,h2⟩:=h;obtain⟨k1,k2⟩:=k;refine⟨⟨k1.os.trans h1.os,k1.tape.trans h1.tape,k1.output.trans h1.output,Yc h1.size k1.size,fun i hi hn=>?_⟩,?_⟩
 · rw[k1.block i (Yg hi h1.size) ?_,h1.block i hi hn];intro e;rcases h2 with h2 | h2
   · exact hn (e.trans h2)
   · have :=h2 i e.symm;omega
 · rcases k2 with k2 | k2
   · rcases h2 with h2 | h2
     · exact .inl (k2.trans h2)
     · exact .inr fun i hi=>h2 i (k2.symm.trans hi)
   · exact .inr fun i hi=>Yc h1.size (k2 i hi)
theorem ay.of_below{w w':World}(v:Value)(h:Below w.heap.size w w'):ay w v w' v:=⟨⟨h.os,h.tape,h.output,h.size,fun k hk _=>h.block k hk⟩,.inl rfl⟩
theorem ay.below{w w':World}{v v':Value}{base:Nat}{l:List UInt8}(h:ay w v w' v')(ho:dw w base v l)(hb:base≤w.heap.size):Below base w w':=
 (Yb base w).grown h.1 hb (fun k hk=>(World.ownsRow.lt ho k hk).1)
theorem ay.block{w w':World}{v v':Value}(h:ay w v w' v'){k:Nat}(hk:k < w.heap.size)(hn:v.ownBlock≠some k):w'.heap[k]? =w.heap[k]? :=h.1.block k hk (fun e=>hn e.symm)
theorem ay.row{w w':World}{v v':Value}(h:ay w v w' v'){B:Nat}{T:TypeId}{n:Nat}{g:Nat→Value}(r:ag w B T n g)(hn:v.ownBlock≠some B):ag w' B T n g:=(h.block r.lt hn).trans r
theorem ay.ne{w w':World}{v v':Value}(h:ay w v w' v'){k:Nat}(hk:k < w.heap.size)(hn:v.ownBlock≠some k):v'.ownBlock≠some k:=by
 intro e;rcases h.2 with h2 | h2
 · exact hn (h2.symm.trans e)
 · have :=h2 k e;omega
section
variable {P:Program}(w:World)
theorem BV(base:Nat)(t ty e:TypeId)(i:TypeInfo)(z:Value)(size bytes:Nat)(ht:P.underlying t=some (.slice e))(hi:P.info? e=some i)(hz:i.zero=some z)
 (hsize:i.size=size) (ag:i.bytes=bytes) (ai:z.cells.size=size) (aj:0 < size)
 (v:Value) (n:Nat) (xs:List Value) (ae:w.ownsRow base e size v n xs)
 (a:Addr) (m c:Nat) (news:List Value) (hl:news.length=m*size) (hnews:∀j u,news[j]? =some u→w.cell? (a.add j)=some u) (h1:∀u∈news,u.oneCell'=true)
 (ah:n+m≤maxLen) (hbytes:(n+m)*bytes≤140737488355328) {v':Value} {w':World} (hr:(Builtin.append_ #[t,t] ty #[v,.slice (some a) m c]).run P w=.ok v' w'):
 v'.ownBlock=v.ownBlock∨∀k,v'.ownBlock=some k→w.heap.size≤k:=by
 rcases ae.2 with⟨rfl,rfl⟩ | ⟨g,cap,cur,rfl,hbg,hg,hnc,hcm,hcs,htake⟩
 · have hx:xs=[]:=Yz (by simpa using ae.1);subst hx;obtain⟨v2,w2,af,h2,_,_⟩:=run_append_own (P:=P) w w.heap.size t ty e i z size bytes ht hi hz hsize ag ai aj (.slice none 0 0) 0 [] (World.ownsRow_nil w w.heap.size e size) a m c news hl hnews h1 ah hbytes (Ya _);obtain⟨rfl,rfl⟩:=Result.ok.inj (hr.symm.trans af);exact .inr fun k hk=>(World.ownsRow.lt h2 k hk).1
 · by_cases hroom:n+m≤cap
   · have af:=run_append_room (P:=P) w t ty e i ht hi g n cap cur hg a m c news (by rw[hsize];exact hl) hnews h1 hroom (by rw[hsize,hl,hcs,←Nat.add_mul];exact Nat.mul_le_mul_right _ hroom);obtain⟨rfl,rfl⟩:=Result.ok.inj (hr.symm.trans af);exact .inl rfl
   · have holds:∀j u,xs[j]? =some u→w.cell? ((⟨g,0,none⟩:Addr).add j)=some u:=ae.cells (g:=g) rfl;have af:=run_append_grow (P:=P) w t ty e i z ht hi hz ⟨g,0,none⟩ n cap xs (by rw[hsize];exact ae.1) holds a m c news (by rw[hsize];exact hl) hnews (by omega) (by simp only[maxLen]at ah;omega) (growslice_fits (by omega) (by rw[ag];exact hbytes));obtain⟨rfl,rfl⟩:=Result.ok.inj (hr.symm.trans af);exact .inr fun k hk=>by simp[Value.ownBlock]at hk;omega
theorem oG(base:Nat)(t u ty e:TypeId)(i:TypeInfo)(ht:P.underlying t=some (.slice e))(hu:P.underlying u=some .string)(hi:P.info? e=some i)(hz:i.zero=some (.int .u8 0))
 (hsize:i.size=1) (ag:i.bytes=1)
 (v:Value) (n:Nat) (xs:List Value) (ae:w.ownsRow base e 1 v n xs) (s:ByteArray)
 (ah:n+s.size≤maxLen) (hbytes:n+s.size≤140737488355328) {v':Value} {w':World} (hr:(Builtin.append_ #[t,u] ty #[v,.string s]).run P w=.ok v' w'):
 v'.ownBlock=v.ownBlock∨∀k,v'.ownBlock=some k→w.heap.size≤k:=by
 rcases ae.2 with⟨rfl,rfl⟩ | ⟨g,cap,cur,rfl,hbg,hg,hnc,hcm,hcs,htake⟩
 · have hx:xs=[]:=Yz (by simpa using ae.1);subst hx;obtain⟨v2,w2,af,h2,_,_⟩:=Lib.run_append_own_string (P:=P) w w.heap.size t u ty e i ht hu hi hz hsize ag (.slice none 0 0) 0 [] (World.ownsRow_nil w w.heap.size e 1) s ah hbytes (Ya _);obtain⟨rfl,rfl⟩:=Result.ok.inj (hr.symm.trans af);exact .inr fun k hk=>(World.ownsRow.lt h2 k hk).1
 · have ai:xs.length=n:=(by simpa using ae.1);by_cases hroom:n+s.size≤cap
   · have af:=Lib.run_append_room_string (P:=P) w t u ty e i ht hu hi hsize g n cap cur hg s hroom (by rw[Nat.mul_one]at hcs;omega);obtain⟨rfl,rfl⟩:=Result.ok.inj (hr.symm.trans af);exact .inl rfl
   · have holds:∀j u,xs[j]? =some u→w.cell? ((⟨g,0,none⟩:Addr).add j)=some u:=ae.cells (g:=g) rfl;have af:=Lib.run_append_grow_string (P:=P) w t u ty e i (.int .u8 0) ht hu hi hz ⟨g,0,none⟩ n cap xs (by rw[hsize];simpa using ai) holds s (by omega) (by simp only[maxLen]at ah;omega) (by rw[ag];exact growslice_fits (by omega) (by omega));obtain⟨rfl,rfl⟩:=Result.ok.inj (hr.symm.trans af);exact .inr fun k hk=>by simp[Value.ownBlock]at hk;omega
variable {w}{ops:Array Oper}{rest:List Oper}{o:Oper}{a:Act}{Q:Exit→Act→World→Prop}
theorem jh(aj:o.guard=none)(s x:Operand)(t:TypeId)
 (ho:o.op=.call {callee:=.builtin .append,args:= #[s,x],argTypes:= #[t,t]})
 (base:Nat) (e:TypeId) (i:TypeInfo) (z:Value) (size bytes:Nat) (ht:P.underlying t=some (.slice e)) (hi:P.info? e=some i) (hz:i.zero=some z)
 (hsize:i.size=size) (af:i.bytes=bytes) (ag:z.cells.size=size) (ah:0 < size)
 (v:Value) (n:Nat) (xs:List Value) (hs:a.eval s=v) (ae:w.ownsRow base e size v n xs)
 (ad:Addr) (m c:Nat) (news:List Value) (hx:a.eval x=.slice (some ad) m c) (hl:news.length=m*size) (hnews:∀j u,news[j]? =some u→w.cell? (ad.add j)=some u) (h1:∀u∈news,u.oneCell'=true)
 (ai:n+m≤maxLen) (hbytes:(n+m)*bytes≤140737488355328) (hbase:base≤w.heap.size)
 (h:∀v' w',w'.ownsRow base e size v' (n+m) (xs++news)→ay w v w' v'→wpList P ops Q rest (a.put o.dst v') w'):wpList P ops Q (o::rest) a w:=by
 refine wpList_plain aj fun K hK=>?_;obtain⟨v',w',hr,h2,h3,h4⟩:=run_append_own (P:=P) w base t o.type e i z size bytes ht hi hz hsize af ag ah v n xs ae ad m c news hl hnews h1 ai hbytes hbase;have h5:=BV (P:=P) w base t o.type e i z size bytes ht hi hz hsize af ag ah v n xs ae ad m c news hl hnews h1 ai hbytes hr;unfold Oper.wp execOp;simp only[ho,resolve,invoke,builtin,Sem.run_bind,Sem.run_pure,Result.andThen_ok,List.map_toArray,Yw,List.map_nil,hs,hx,hr];exact hK _ _ (h v' w' h2 ⟨h3,h5⟩)
end
theorem fU{w:World}{ops:Array Oper}{rest:List Oper}{o:Oper}{a:Act}{Q:Exit→Act→World→Prop}(af:o.guard=none)(s x:Operand)
 (ho:o.op=.call {callee:=.builtin .append,args:= #[s,x],argTypes:= #[130,130]})
 (base:Nat) (v vx:Value) (l lx:List UInt8) (hs:a.eval s=v) (hx:a.eval x=vx) (ae:dw w base v l) (ak:BytesAt w vx lx) (hlen:l.length+lx.length≤140737488351232) (hbase:base≤w.heap.size)
 (h:∀v' w',Hid (dw w' base v' (l++lx))→Hid (ay w v w' v')→wpList Tryz.prog ops Q rest (a.put o.dst v') w'):wpList Tryz.prog ops Q (o::rest) a w:=by
 obtain⟨i0,hi,ah,ai,aj⟩:=info_parts nK
 have fin:∀v' w',w'.ownsRow base 5 1 v' (l.length+lx.length) (l.map vB++lx.map vB)→ay w v w' v'→wpList Tryz.prog ops Q rest (a.put o.dst v') w':=by
  intro v' w' h1 hg;refine h v' w' ?_ hg;unfold Hid dw;rw[Yf,Yn];exact h1
 rcases ak with⟨⟨ad,c,rfl,hc⟩,rfl⟩ | ⟨b,off,cap,rfl,hle,hpos,hcap,hb,hcell⟩
 · cases ad with
   | none=>
     obtain rfl:=hc rfl;refine wpList_append_own_none af s x 130 ho base 5 i0 1 Tryz.underlying130 hi v l.length (l.map vB) hs ae hx ?_;exact fin v w (by have h:=ae;unfold dw at h;simpa using h) (ay.refl _ _)
   | some ad=>
     refine jh af s x 130 ho base 5 i0 (.int .u8 0) 1 1 Tryz.underlying130 hi ah ai aj rfl (by decide) v l.length (l.map vB) hs ae ad 0 c [] hx rfl (fun j u hj=>by cases hj) (fun u hu=>by cases hu) (by unfold maxLen;omega) (by omega) hbase ?_;intro v' w' h1 hg;exact fin v' w' (by simpa using h1) hg
 · refine jh af s x 130 ho base 5 i0 (.int .u8 0) 1 1 Tryz.underlying130 hi ah ai aj rfl (by decide) v l.length (l.map vB) hs ae ⟨b,off,none⟩ lx.length cap (lx.map vB) hx (by simp) (fun j u hj=>?_) (fun u hu=>?_) (by unfold maxLen;omega) (by omega) hbase ?_
   · obtain⟨ag,he⟩:=Ys.1 hj;rw[Yk]at ag;rw[Addr.add_mid,hcell j ag,←he];simp[Yd,Yh ag]
   · obtain⟨y,_,rfl⟩:=Yo.1 hu;rfl
   · intro v' w' h1 hg;exact fin v' w' h1 hg
theorem Ep(s:ByteArray):Lib.strCells s=s.data.toList.map vB:=rfl
theorem qK{w:World}{ops:Array Oper}{rest:List Oper}{o:Oper}{a:Act}{Q:Exit→Act→World→Prop}(ai:o.guard=none)(sl x:Operand)
 (ho:o.op=.call {callee:=.builtin .append,args:= #[sl,x],argTypes:= #[130,9]})
 (base:Nat) (v:Value) (s:ByteArray) (l:List UInt8) (hs:a.eval sl=v) (hx:a.eval x=.string s) (ae:dw w base v l) (hlen:l.length+s.size≤140737488351232) (hbase:base≤w.heap.size)
 (h:∀v' w',Hid (dw w' base v' (l++s.data.toList))→Hid (ay w v w' v')→wpList Tryz.prog ops Q rest (a.put o.dst v') w'):wpList Tryz.prog ops Q (o::rest) a w:=by
 obtain⟨i0,hi,af,ag,ah⟩:=info_parts nK;refine wpList_plain ai fun K hK=>?_;obtain⟨v',w',hr,h2,h3,h4⟩:=Lib.run_append_own_string (P:=Tryz.prog) w base 130 9 o.type 5 i0 Tryz.underlying130 Tryz.underlying9 hi af ag ah v l.length (l.map vB) ae s (by unfold maxLen;omega) (by omega) hbase;have h5:=oG (P:=Tryz.prog) w base 130 9 o.type 5 i0 Tryz.underlying130 Tryz.underlying9 hi af ag ah v l.length (l.map vB) ae s (by unfold maxLen;omega) (by omega) hr;unfold Oper.wp execOp;simp only[ho,resolve,invoke,builtin,Sem.run_bind,Sem.run_pure,Result.andThen_ok,List.map_toArray,Yw,List.map_nil,hs,hx,hr];refine hK _ _ (h v' w' ?_ ⟨h3,h5⟩);unfold Hid dw;rw[Yf,Yn,←Ep];have hl:s.data.toList.length=s.size:=Array.length_toList;rw[hl];exact h2
theorem Ko{P:Program}{C:World→Prop}{ops:Array Oper}{rest:List Oper}{o:Oper}{a:Act}{Q:Act→Prop}(af:o.guard=none)(ty:TypeId)(x:Operand)(ho:o.op=.load ty x)(g i:Nat)(hx:a.eval x=.pointer (some ⟨g,i,none⟩))
 (d:TypeDesc) (hu:P.underlying ty=some d) (hd:(match d with | .struct _ | .array _ _=>true | _=>false)=false) (v:Value) (hc:∀W,C W→W.cell? ⟨g,i,none⟩=some v) (h:wpQuiet P ops C Q rest (a.put o.dst v)):wpQuiet P ops C Q (o::rest) a:=by
 unfold wpQuiet;rw[if_pos (by unfold Region.wanted;rw[af])];refine⟨v,fun W hW=>?_,h⟩;have hc':=hc W hW;have hA:=run_isAgg_plain (P:=P) hu hd W
 have ae:(loadVar ty ⟨g,i,none⟩).run P W=.ok v W:=by
  simp[loadVar,hA,hc',Result.andThen]
 unfold Oper.quietAt execOp;simp only[ho,hx,Instr.loadAt,Instr.sureAddr,Sem.run_bind,Sem.run_pure,Result.andThen_ok,ae,Oper.quietUpon,and_self]
theorem iE{P:Program}{C:World→Prop}{ops:Array Oper}{rest:List Oper}{o:Oper}{a:Act}{Q:Act→Prop}(af:o.guard=none)(ty:TypeId)(x:Operand)(ho:o.op=.load ty x)(g:Nat)(hx:a.eval x=.pointer (some ⟨g,0,none⟩))
 (d:TypeDesc) (hu:P.underlying ty=some d) (hd:(match d with | .struct _ | .array _ _=>true | _=>false)=true) (N:Nat) (hi:(P.info? ty).map (·.size)=some N) (T:TypeId) (f:Nat→Value) (hc:∀W,C W→ag W g T N f) (h:wpQuiet P ops C Q rest (a.put o.dst (.agg (ah N f)))):wpQuiet P ops C Q (o::rest) a:=by
 unfold wpQuiet;rw[if_pos (by unfold Region.wanted;rw[af])];refine⟨_,fun W hW=>?_,h⟩;have ae:=run_loadVar_row (P:=P) W g T ty (ah N f) (0,0) d (hc W hW) hu hd (by rw[bz];exact hi);unfold Oper.quietAt execOp;simp only[ho,hx,Instr.loadAt,Instr.sureAddr,Sem.run_bind,Sem.run_pure,Result.andThen_ok,ae,Oper.quietUpon,and_self]
theorem aJ{S:Nat→Prop}{w W:World}{B:Nat}{T:TypeId}{n:Nat}{g:Nat→Value}(h:ag w B T n g)(hS:S B)(hr:(Tc.Rl.stay S).r w W):ag W B T n g:=(hr B hS).trans h
theorem aC{S:Nat→Prop}{w w':World}(hb:Below w.heap.size w w')(hS:∀k,S k→k < w.heap.size):(Tc.Rl.stay S).r w w':=fun k hk=>hb.block k (hS k hk)
theorem bP{S:Nat→Prop}{w w':World}{v v':Value}(h:ay w v w' v')(hS:∀k,S k→k < w.heap.size∧v.ownBlock≠some k):(Tc.Rl.stay S).r w w':=fun k hk=>h.block (hS k hk).1 (hS k hk).2
theorem zC{P:Program}{C:World→Prop}{ops:Array Oper}{rest:List Oper}{a:Act}{Q:Act→Prop}{dst:Option Tmp}{ty t:TypeId}{x:Operand}{p:String}{af:Array Edge}(g i:Nat)(hx:a.eval x=.pointer (some ⟨g,i,none⟩))(K:zK P ty)(v:Value)(hc:∀W,C W→W.cell? ⟨g,i,none⟩=some v)(h:wpQuiet P ops C Q rest (a.put dst v)):wpQuiet P ops C Q (Oper.mk dst (.load ty x) t p af none::rest) a:=by
 obtain⟨d,hu,hd⟩:=K
 exact Ko rfl ty x rfl g i hx d hu (by cases d<;>exact hd) v hc h
end Go.Proofs.YtfddbnmfllgifaaGreatDoor
namespace Go.Proofs.YtfddbnmfllgifaaGreatDoor
open Go.RowKit
open Sha (Wd St)
theorem dw.at {w:World}{base:Nat}{v:Value}{l:List UInt8}(h:dw w base v l)(h0:0 < l.length):
 ∃g cap:Nat,v=.slice (some ⟨g,0,none⟩) l.length cap∧base≤g∧g < w.heap.size∧l.length≤cap∧(cap:Int)≤9223372036854775807∧∀j,j < l.length→w.cell? ⟨g,j,none⟩=some (vB (l.getD j 0)):=by
 obtain⟨h1,h2⟩:=h;rcases h2 with⟨rfl,h3⟩ | ⟨g,cap,cur,rfl,hb,hg,hle,hm,hs,ht⟩
 · omega
 · refine⟨g,cap,rfl,hb,(Yi.1 hg).1,hle,by unfold maxLen at hm;omega,fun j hj=>?_⟩;have h:=World.ownsRow.cellAt (w:=w) (base:=base) (e:=5) (size:=1) (g:=g) (cap:=cap) (n:=l.length) (xs:=l.map vB) ⟨h1,.inr ⟨g,cap,cur,rfl,hb,hg,hle,hm,hs,ht⟩⟩ j (by omega);rw[h];simp[Yd,Yh hj]
end Go.Proofs.YtfddbnmfllgifaaGreatDoor
namespace Go.Proofs.YtfddbnmfllgifaaGreatDoor
open Go.RowKit
section
variable {P:Program}{w:World}{ops:Array Oper}{rest:List Oper}{o:Oper}{a:Act}{Q:Exit→Act→World→Prop}
theorem wE{g N off:Nat}{T:TypeId}{f:Nat→Value}(h:ag w g T N f){n:Nat}(hn:off+n≤N):w.rangeAt g off ((List.range n).map fun j=>f (off+j)):=by
 intro j v hj;obtain⟨ae,he⟩:=Ys.1 hj;rw[Yk,List.length_range]at ae;rw[h.cell (by omega),←he];simp
theorem Jb{g N off:Nat}{T:TypeId}{f:Nat→Value}(h:ag w g T N f){n:Nat}(hn:off+n≤N):w.there g off n:=fun j hj=>⟨by rw[h.cell (by omega)];rfl,h.frozen _⟩
theorem jl{g N:Nat}{T:TypeId}:∀(vs:List Value) (off:Nat) (w:World) (f:Nat→Value),ag w g T N f→ag (w.setCells g off vs) g T N (fun j=>if off≤j∧j < off+vs.length then vs.getD (j - off) undef else f j)
 | [],off,w,f,h=>h.congr fun i _=>by rw[if_neg (by rw[Xc];omega)]
 | v::vs,off,w,f,h=>by
   have h1:=jl vs (off+1) _ _ (h.set off v);refine ag.congr (show ag ((w.setCell ⟨g,off,none⟩ v).setCells g (off+1) vs) g T N _ from h1) (fun i _=>?_);show(if off+1≤i∧i < off+1+vs.length then vs.getD (i - (off+1)) undef else if i=off then v else f i)=_;rw[Yr];by_cases h2:i=off
   · subst h2;rw[if_neg (by omega),if_pos rfl,if_pos (by omega),Nat.sub_self];rfl
   · by_cases h3:off+1≤i∧i < off+1+vs.length
     · rw[if_pos h3,if_pos (by omega),show i - off=(i - (off+1))+1 by omega];rfl
     · rw[if_neg h3,if_neg h2,if_neg (by omega)]
theorem jm{g:Nat}:∀(vs:List Value) (off:Nat) (w:World),aG g w (w.setCells g off vs)
 | [],off,w=>aG.refl _ _
 | v::vs,off,w=>((aG.refl g w).setCell (p:=⟨g,off,none⟩) (.inl rfl) v).trans (jm vs (off+1) _)
theorem OE(af:o.guard=none)(ty:TypeId)(x:Operand)(ho:o.op=.load ty x)(g off:Nat)(hx:a.eval x=.pointer (some ⟨g,off,none⟩))(N n:Nat)(T:TypeId)(f f':Nat→Value)(ae:ag w g T N f)(hn:off+n≤N)
 (hf:∀j,j < n→f (off+j)=f' j) (d:TypeDesc) (hu:P.underlying ty=some d) (hd:d.isRow=true) (hi:(P.info? ty).map (·.size)=some n)
 (h:wpList P ops Q rest (a.put o.dst (.agg (ah n f'))) w):wpList P ops Q (o::rest) a w:=by
 have e:((List.range n).map fun j=>f (off+j))=(List.range n).map f':=List.map_congr_left fun j hj=>hf j (List.mem_range.1 hj);refine wpList_load_mid af ty x ho g off hx ((List.range n).map f') d (by rw[←e];exact wE ae hn) hu hd (by simpa using hi) h
theorem fC(af:o.guard=none)(ty:TypeId)(x y:Operand)(ho:o.op=.store ty x y)(g off:Nat)(hx:a.eval x=.pointer (some ⟨g,off,none⟩))(N n:Nat)(T:TypeId)(f f' g':Nat→Value)(hy:a.eval y=.agg (ah n f'))
 (ae:ag w g T N f) (hn:off+n≤N) (hi:(P.info? ty).map (·.size)=some n) (h1:∀j,j < n→(f' j).oneCell'=true) (hg:∀i,i < N→(if off≤i∧i < off+n then f' (i - off)else f i)=g' i)
 (h:∀w',Hid (ag w' g T N g')→Hid (aG g w w')→wpList P ops Q rest (a.put o.dst undef) w'):wpList P ops Q (o::rest) a w:=by
 have hl:(ah n f').toList=(List.range n).map f':=rfl
 refine wpList_store_mid af ty x y ho g off (ah n f') hx hy (by rw[bz];exact Jb ae hn) (by rw[bz];exact hi) (by
  rw[Array.all_eq_true_iff_forall_mem];intro v hv;have :v∈(List.range n).map f':=(by rw[←hl];exact Array.mem_toList_iff.2 hv);obtain⟨j,hj,rfl⟩:=Yo.1 this
  exact h1 j (List.mem_range.1 hj)) ?_
 refine h _ ?_ (jm _ _ _);refine ag.congr (jl _ _ _ _ ae) (fun i hi=>?_);rw[←hg i hi,hl,Yk,List.length_range];by_cases h2:off≤i∧i < off+n
 · rw[if_pos h2,if_pos h2,Yd,Xg,Xh (by omega)];rfl
 · rw[if_neg h2,if_neg h2]
theorem vS(af:o.guard=none)(v:Value)(ae:(execOp a.eval o).run P w=.ok (.value v) w)
 (h:wpList P ops Q rest (a.put o.dst v) w):wpList P ops Q (o::rest) a w:=by
 refine wpList_plain af fun K hK=>?_;unfold Oper.wp;rw[ae];exact hK _ _ h
end
section
variable {P:Program}{C:World→Prop}{ops:Array Oper}{rest:List Oper}{o:Oper}{a:Act}{Q:Act→Prop}
theorem kD(af:o.guard=none)(v:Value)
 (ae:∀W,C W→(execOp a.eval o).run P W=.ok (.value v) W) (h:wpQuiet P ops C Q rest (a.put o.dst v)):wpQuiet P ops C Q (o::rest) a:=by
 unfold wpQuiet;rw[if_pos (by unfold Region.wanted;rw[af])];refine⟨v,fun W hW=>?_,h⟩;unfold Oper.quietAt;simp only[ae W hW,Oper.quietUpon,and_self]
theorem lW(af:o.guard=none)(s d:TypeId)(x:Operand)(ho:o.op=.convert s d x)(u v:Value)(hx:a.eval x=u)
 (ae:∀W,C W→(convert s d u).run P W=.ok v W) (h:wpQuiet P ops C Q rest (a.put o.dst v)):wpQuiet P ops C Q (o::rest) a:=by
 refine kD af v (fun W hW=>?_) h;unfold execOp;simp only[ho,hx,Sem.run_bind,Sem.run_pure,Result.andThen_ok,ae W hW]
theorem Ld(af:o.guard=none)(ty:TypeId)(x:Operand)(ho:o.op=.load ty x)(g off:Nat)(hx:a.eval x=.pointer (some ⟨g,off,none⟩))(N n:Nat)(T:TypeId)(f f':Nat→Value)(ae:∀W,C W→ag W g T N f)(hn:off+n≤N)
 (hf:∀j,j < n→f (off+j)=f' j) (d:TypeDesc) (hu:P.underlying ty=some d) (hd:d.isRow=true) (hi:(P.info? ty).map (·.size)=some n)
 (h:wpQuiet P ops C Q rest (a.put o.dst (.agg (ah n f')))):wpQuiet P ops C Q (o::rest) a:=by
 have e:((List.range n).map fun j=>f (off+j))=(List.range n).map f':=List.map_congr_left fun j hj=>hf j (List.mem_range.1 hj);refine kD af _ (fun W hW=>?_) h;unfold execOp;simp only[ho,hx,Instr.loadAt,Instr.sureAddr,Sem.run_bind,Sem.run_pure,Result.andThen_ok,run_loadVar_mid W g off ty ((List.range n).map f') d (by rw[←e];exact wE (ae W hW) hn) hu hd (by simpa using hi)];rfl
end
theorem zP{P:Program}{w:World}{ops:Array Oper}{rest:List Oper}{a:Act}{Q:Exit→Act→World→Prop}{dst:Option Tmp}{ty t:TypeId}{x:Operand}{p:String}{af:Array Edge}{g N:Nat}{T:TypeId}{f:Nat→Value}(hr:Hid (ag w g T N f))(off:Nat)(hx:a.eval x=.pointer (some ⟨g,off,none⟩)){n:Nat}(U:zR P ty n)(f':Nat→Value)(hn:off+n≤N)(hf:∀j,j < n→f (off+j)=f' j)(h:wpList P ops Q rest (a.put dst (.agg (ah n f'))) w):wpList P ops Q (Oper.mk dst (.load ty x) t p af none::rest) a w:=by
 obtain⟨d,hu,hd,hi⟩:=U
 exact OE rfl ty x rfl g off hx N n T f f' hr hn hf d hu (by cases d<;>exact hd) hi h
theorem zq{P:Program}{C:World→Prop}{ops:Array Oper}{rest:List Oper}{a:Act}{Q:Act→Prop}{dst:Option Tmp}{ty t:TypeId}{x:Operand}{p:String}{af:Array Edge}(g off:Nat)(hx:a.eval x=.pointer (some ⟨g,off,none⟩))(N:Nat){n:Nat}(U:zR P ty n){T:TypeId}(f f':Nat→Value)(hrow:∀W,C W→ag W g T N f)(hn:off+n≤N)(hf:∀j,j < n→f (off+j)=f' j)(h:wpQuiet P ops C Q rest (a.put dst (.agg (ah n f')))):wpQuiet P ops C Q (Oper.mk dst (.load ty x) t p af none::rest) a:=by
 obtain⟨d,hu,hd,hi⟩:=U
 exact Ld rfl ty x rfl g off hx N n T f f' hrow hn hf d hu (by cases d<;>exact hd) hi h
namespace IM
def get:List (Int×Value)→Int→Option Value
 | [],_=>none
 | (a,v)::m,k=>if k=a then some v else get m k
def put:List (Int×Value)→Int→Value→List (Int×Value)
 | [],k,v=>[(k,v)]
 | (a,u)::m,k,v=>if k=a then(k,v)::m else(a,u)::put m k v
section
variable {w w':World}{r:Nat}{m:List (Int×Value)}
end
section
variable {P:Program}{w:World}{r:Nat}{m:List (Int×Value)}{ops:Array Oper}{rest:List Oper}{o:Oper}{a:Act}
end
end IM
end Go.Proofs.YtfddbnmfllgifaaGreatDoor
