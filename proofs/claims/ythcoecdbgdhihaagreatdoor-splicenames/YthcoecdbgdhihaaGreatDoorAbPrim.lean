import Derived.Test.YthcoecdbgdhihaaGreatDoorAbCalls
import Derived.Lib.Join
import Derived.Lib.ItoaNum
import Derived.Lib.LaidTab
import Derived.Sort.Grow
import Derived.Deep.Draws
/-
  Functions of Go's library that the kit knows: strings.Join, and strconv.Itoa of small numbers.
-/
set_option linter.unusedVariables false
set_option linter.unusedSimpArgs false
set_option linter.unnecessarySimpa false
set_option maxRecDepth 100000
set_option maxHeartbeats 8000000
namespace Go.Ab
section
variable {P:Program} {ns:Names} {w w':World}
theorem zE.below {K:bJ} (h:zE K w) (hb:RowKit.Below w.heap.size w w'):zE K w':=by
 intro b o v hk;have h1:=h b o v hk
 have hlt:b<w.heap.size:=by
   simp only [World.cell?] at h1;cases hc:w.heap[b]? with
   | none=>rw [hc] at h1;simp at h1
   | some c=>exact (Array.getElem?_eq_some_iff.1 hc).1
 have h2:=hb.block b hlt;simp only [World.cell?,h2] at h1 ⊢;exact h1
def ky:List PV→Option (List (List UInt8))
 | []=>some []
 | .str s::r=>(ky r).map (s::·)
 | _=>none
theorem ss:∀{els:List PV} {xs:List (List UInt8)},ky els=some xs→els=xs.map .str
 | [],xs,h=>by simp [ky] at h;subst h;rfl
 | .str s::r,xs,h=>by
   simp only [ky,Option.map_eq_some_iff] at h;obtain ⟨ys,h1,rfl⟩:=h;rw [ss h1];rfl
 | .bool _::r,_,h=>by simp [ky] at h
 | .int _ _::r,_,h=>by simp [ky] at h
 | .aI _::r,_,h=>by simp [ky] at h
 | .agg _::r,_,h=>by simp [ky] at h
def B4:List PV→Option (List PV)
 | [.aI els,.str sep]=>match ky els with
   | some xs=>if xs.length≤1000000000∧(Lib.join xs sep).length≤140737488355328 then some [.str (Lib.join xs sep)] else none
   | none=>none
 | _=>none
def QN:List PV→Option (List PV)
 | [.int .i64 n]=>if 0≤n∧n<100 then some [.str (Lib.decDigits n.toNat)] else none
 | _=>none
def wc:List PV→Option (List PV)
 | [.int .i64 n]=>if -9223372036854775808≤n∧n≤9223372036854775807 then some [.str (Lib.itoa n)] else none
 | _=>none
def we:Array Value:=(Lib.pow10Tab.map fun z=>Value.int .u64 z).toArray
theorem B5 {f:FuncId} {g:Nat} (hpin:ns.jS g=some we) (hg:P.globalNamed "internal/strconv.uint64pow10"=some g)
   (h:∀n:Int,-9223372036854775808≤n→n≤9223372036854775807→∀w:World,Lib.TabIs P w "internal/strconv.uint64pow10" .u64 Lib.pow10Tab →
     Calls P f #[.int .i64 n] w fun e w'=>e=.returned (.string ⟨(Lib.itoa n).toArray⟩)∧∃k os,w'=Go.Sort.grow (w.drewN k) os) :
   ∀dC rs,wc dC=some rs→tX P ns f dC rs:=by
 intro dC rs hp K w vs hw hk hr;unfold wc at hp;split at hp
 · rename_i n;simp only [Option.ite_none_right_eq_some,Option.some.injEq] at hp;obtain ⟨⟨h0,h1⟩,rfl⟩:=hp;simp only [iZ] at hr;obtain ⟨v,r,rfl,hv,rfl⟩:=hr;have hv:v=.int .i64 n:=by simpa [Rel,R] using hv
   subst hv
   have htab:Lib.TabIs P w "internal/strconv.uint64pow10" .u64 Lib.pow10Tab:=by
     obtain ⟨t,z,hh⟩:=hw g _ hpin;unfold Lib.TabIs World.var?
     rw [hg,Option.bind_some,hh];rfl
   refine (h n h0 h1 w htab).mono ?_
   rintro e w' ⟨rfl,k,os,rfl⟩
   have hb:RowKit.Below w.heap.size w (Go.Sort.grow (w.drewN k) os):=⟨rfl,rfl,rfl,by simp [Go.Sort.grow],fun b hb=>by
     simp only [Go.Sort.grow,World.heap_drewN];rw [Array.getElem?_append_left hb]⟩
   exact ⟨_,K,rfl,by simp [ic,Rel,R],K.le_refl,fun _ _ _ _ h=>h,hk.below hb,hb⟩
 · simp at hp
theorem CS {K:bJ}:∀{xs:List (List UInt8)} {b o sz:Nat},Row K b o sz (xs.map .str)→xs≠[]→∀(j:Nat) (x:List UInt8),xs[j]?=some x→K b (o+j)=some (.string ⟨x.toArray⟩)
 | [],_,_,_,_,h,_,_,_=>absurd rfl h
 | y::r,b,o,sz,hr,_,j,x,hj=>by
   simp only [List.map_cons,Row,R] at hr;obtain ⟨⟨vs,h1,h2,rfl⟩,h4⟩:=hr;simp only [List.length_cons,List.length_nil] at h1;subst h1;cases j with
   | zero=>
     simp at hj;subst hj;exact h2 0 _ rfl
   | succ j=>
     have hj':r[j]?=some x:=(by simpa using hj);have:=CS h4 (by intro e;subst e;simp at hj') j x hj'
     rwa [show o+(0+1)+j=o+(j+1) by omega] at this
theorem FR {f:FuncId}
   (h0:∀(a:Option Addr) (c:Nat) (sep:ByteArray) (w:World),Calls P f #[.slice a 0 c,.string sep] w fun e w'=>e=.returned (.string ⟨#[]⟩)∧w'=w)
   (h:∀(bk o c:Nat) (xs:List ByteArray) (sep:ByteArray) (w:World),(∀(j:Nat) x,xs[j]?=some x→w.cell? ⟨bk,o+j,none⟩=some (.string x))→bk<w.heap.size→xs.length≤140737488355328→xs.length≤c →
     (Lib.join (xs.map (·.data.toList)) sep.data.toList).length≤140737488355328 →
     Calls P f #[.slice (some ⟨bk,o,none⟩) xs.length c,.string sep] w fun e w'=>e=.returned (.string ⟨(Lib.join (xs.map (·.data.toList)) sep.data.toList).toArray⟩)∧RowKit.Below w.heap.size w w') :
   ∀dC rs,B4 dC=some rs→tX P ns f dC rs:=by
 intro dC rs hp K w vs _ hk hr;unfold B4 at hp;split at hp
 · rename_i els sep;split at hp
   · rename_i xs hxs;simp only [Option.ite_none_right_eq_some,Option.some.injEq] at hp;obtain ⟨⟨hn,hl⟩,rfl⟩:=hp;have:=ss hxs;subst this;simp only [iZ] at hr;obtain ⟨v,r,rfl,hv,u,r',rfl,hu,rfl⟩:=hr;have hu:u=.string ⟨sep.toArray⟩:=by simpa [Rel,R] using hu
     subst hu;obtain ⟨base,len,cap,rfl,hlc,hlen,hrow⟩:=cK.1 hv;by_cases hnil:xs=[]
     · subst hnil;simp at hlen;subst hlen;refine (h0 base cap _ w).mono ?_
       rintro e w' ⟨rfl,rfl⟩
       exact ⟨_,K,rfl,by simp [ic,Rel,R,Lib.join_nil],K.le_refl,fun _ _ _ _ h=>h,hk,RowKit.Below.refl _ _⟩
     · obtain ⟨b,o,sz,rfl,hrow'⟩:=hrow.resolve_left (by simpa using hnil);have hx:=CS hrow' hnil;have hxl:(xs.map fun x=>(⟨x.toArray⟩:ByteArray)).length=len:=by simpa using hlen
       have hdat:(xs.map fun x=>(⟨x.toArray⟩:ByteArray)).map (fun x=>x.data.toList)=xs:=by
         rw [List.map_map];have:((fun x:ByteArray=>x.data.toList) ∘ fun x:List UInt8=>(⟨x.toArray⟩:ByteArray))=id:=by funext x;rfl
         rw [this,List.map_id]
       have hb:b<w.heap.size:=by
         cases xs with
         | nil=>exact absurd rfl hnil
         | cons x r=>
           have h1:=hk _ _ _ (hx 0 x rfl);simp only [World.cell?] at h1;cases hc:w.heap[b]? with
           | none=>rw [hc] at h1;simp at h1
           | some c=>exact (Array.getElem?_eq_some_iff.1 hc).1
       have hc:=h b o cap (xs.map fun x=>(⟨x.toArray⟩:ByteArray)) ⟨sep.toArray⟩ w (by
         intro j x hj;simp only [List.getElem?_map,Option.map_eq_some_iff] at hj;obtain ⟨y,hy,rfl⟩:=hj;exact hk _ _ _ (hx j y hy)) hb (by simp;omega) (by rw [hxl];exact hlc) (by rw [hdat];exact hl)
       rw [hxl,hdat] at hc;refine hc.mono ?_
       rintro e w' ⟨rfl,hbw⟩
       exact ⟨_,K,rfl,by simp [ic,Rel,R],K.le_refl,fun _ _ _ _ h=>h,hk.below hbw,hbw⟩
   · simp at hp
 · simp at hp
end
end Go.Ab
