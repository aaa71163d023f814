/- Part of TopMembers. -/
import Derived.Test.YtfddbnmfllgifaaGreatDoorA32
import Derived.Test.YtfddbnmfllgifaaGreatDoorA30
import Derived.Shelf.SlSortCmp.NoneTotal
set_option linter.unusedVariables false
set_option linter.unusedSimpArgs false
set_option maxHeartbeats 64000000
namespace Go.Proofs.YtfddbnmfllgifaaGreatDoor
open Go.RowKit Go.Shelf Go.Sort
section
variable {α:Type}{s:Nat}{c:α→Nat→Value}
abbrev encS(s:Nat)(c:α→Nat→Value)(x:α):List Value:=(List.range s).map (c x)
theorem Wx(x:α){j:Nat}(h:j < s):(encS s c x)[j]! =c x j:=by
 unfold encS;rw[List.getElem!_eq_getElem?_getD,Xg,Xh h];rfl
end
section
variable {α:Type}[Inhabited α]{T:TypeId}{s:Nat}{c:α→Nat→Value}
theorem JP(hs:0 < s)(l:List α){t:Nat}(h:t < l.length*s):(flatK (encS s c) s l.toArray)[t]! =c (l.toArray[t / s]!) (t % s):=by
 rw[get_flatK _ _ _ _ (by simpa using h),Wx _ (Nat.mod_lt _ hs)]
theorem Ew(hs:0 < s)(l:List α){t:Nat}(h:t < l.length*s):(bJ s c l)[t]? =some (c (l.toArray[t / s]!) (t % s)):=by
 have hi:t / s < l.length:=(Nat.div_lt_iff_lt_mul hs).2 h;have hg:=dE (default:α) (s:=s) (c:=c) l (t / s) (t % s) hi (Nat.mod_lt _ hs);rw[Nat.div_add_mod]at hg;rw[hg];congr 2;simp[hi]
theorem uY(w:World)(g n:Nat)(d:Array α)(os:Array Obj):aG g w (sortWorldK (encS s c) s w g 0 n d os):=by
 refine⟨rfl,rfl,rfl,?_,fun k hk ae=>?_⟩
 · show w.heap.size≤((w.heap.modify g _)++os).size;simp
 · show((w.heap.modify g _)++os)[k]? =_;rw[Array.getElem?_append_left (by simpa using hk),Array.getElem?_modify,if_neg (Ne.symm ae)]
theorem pV{P:Program}{ρ:Ren}(L:SlLaysF0.n6 P ρ)(aE:∀w,(isAgg (ρ.t 24)).run P w=.ok true w)(zE:∀w,(Go.sizeOf (ρ.t 24)).run P w=.ok s w)(hs:0 < s)(h1:∀(u:α) j,(c u j).oneCell'=true)(cf:α→α→Int)(hO:SWO (ltOf cf))(g:Nat)(cb:Array Value)
 (eg:∀args w,(callFunc g args).run P w=.ok (.enter g args) w) {w:World} {base:Nat} {v:Value} {l:List α} (af:ax T s c w base v l) (hl:l.length≤1000000)
 (ag:∀b W x y,v.ownBlock=some b→aG b w W→Calls P g (#[.agg (encS s c x).toArray,.agg (encS s c y).toArray]++cb) W fun e w'=>e=.returned (.int .i64 (cf x y))∧∃q os',w'=grow (W.drewN q) os'):
 Calls P (ρ.f 6) #[v,.func (.func g) #[] cb] w fun e w'=>e=.returned (.tuple #[])∧∃l':List α,l'.Perm l∧ax T s c w' base v l'∧ay w v w' v:=by
 obtain⟨hlen,h2⟩:=af;rcases h2 with⟨rfl,h0⟩ | ⟨b,cap,cur,rfl,hb,hg,hn,hmax,hsz,htk⟩
 · obtain rfl:l=[]:=Yz h0;refine(AnyF.slices_SortFunc_none L none 0 _ w).mono ?_;rintro e w' ⟨rfl,rfl⟩;exact⟨rfl,[],List.Perm.refl _,ax.nil _ _,ay.refl _ _⟩
 have ae:b < w.heap.size:=(Yi.1 hg).1;have au:l.length*s≤cur.size:=by rw[hsz];exact Nat.mul_le_mul_right s hn
 have hH:HoldsK (encS s c) s w b 0 l.toArray:=by
  intro j hj;rw[size_flatK]at hj;have ah:j < l.length*s:=by simpa using hj
  have e1:cur.toList[j]? =some (c (l.toArray[j / s]!) (j % s)):=by
   have :=Ew (c:=c) hs l ah;rw[←htk,Yy ah]at this;exact this
  rw[JP hs l ah];constructor
  · simp only[World.cell?,hg,Yl];rw[←Array.getElem?_toList];simpa using e1
  · simp[World.frozen?,hg]
 have hA:=AnyQ.slices_SortFunc (P:=P) (ρ:=ρ) L s aE zE (encS s c) (fun x=>by simp[encS]) (fun x u hu=>by
  obtain⟨j,_,rfl⟩:=Yo.1 hu;exact h1 x j) cf hO g cb b 0 cap l.toArray w eg (fun m os dk _ x y=>ag b _ x y rfl (uY w b m dk os)) hH ae (by simp;omega)
 have e0:l.toArray.size=l.length:=(by simp);rw[e0]at hA;refine hA.mono ?_;rintro e w' ⟨rfl,d',n,os,⟨ai,aB,aj⟩,_,rfl⟩;rw[e0]at ai;have hd:d'.toList.length=l.length:=by simpa using ai
 have hperm:d'.toList.Perm l:=by
  have e2:(d'.extract 0 l.length).toList=d'.toList:=(by rw[←hd];simp);have e3:(l.toArray.extract 0 l.length).toList=l:=(by simp);rw[e2,e3]at aj;exact aj
 refine⟨rfl,d'.toList,hperm,?_,?_⟩
 · have hg':(sortWorldK (encS s c) s w b 0 n d' os).heap[b]? =some (.cells (putCells id 0 (flatK (encS s c) s d') cur) T (0,0)):=by
    show((w.heap.modify b _)++os)[b]? =_;rw[Array.getElem?_append_left (by simpa using ae),Array.getElem?_modify,if_pos rfl,hg];rfl
   refine⟨?_,.inr ⟨b,cap,_,?_,hb,hg',?_,hmax,?_,?_⟩⟩
   · rw[bI]
   · rw[hd]
   · rw[hd];exact hn
   · simp[putCells,hsz]
   · apply List.ext_getElem?;intro t;rw[hd];by_cases ht:t < l.length*s
     · have ak:t < d'.toList.length*s:=(by rw[hd];exact ht);have az:t < cur.size:=Yg ht au;rw[Yy ht,Ew hs d'.toList ak,Array.getElem?_toList,putCells,Array.getElem?_mapIdx,Array.getElem?_eq_getElem az];have e4:(flatK (encS s c) s d').size=l.length*s:=(by rw[size_flatK,ai]);have e5:=JP (c:=c) hs d'.toList ak;simp only[Array.toArray_toList]at e5;simp only[Option.map_some,Nat.zero_le,true_and,Yl,Nat.sub_zero,e4,ht,if_true,id,Array.toArray_toList,e5]
     · rw[List.getElem?_eq_none (by rw[Yu];omega),List.getElem?_eq_none (by rw[bI,hd];omega)]
 · have ob:=uY (s:=s) (c:=c) w b n d' os;exact⟨⟨ob.os,ob.tape,ob.output,ob.size,fun k hk aA=>ob.block k hk (fun e=>aA (by rw[e];rfl))⟩,.inl rfl⟩
end
end Go.Proofs.YtfddbnmfllgifaaGreatDoor
