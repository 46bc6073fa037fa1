/-
  Own work: part 4 of the texts that the proof of the given statement leans on.
-/
import Derived.ChangeShapes
import Derived.ChangeSame
import Derived.WideShapes
import Derived.WideKeyArgs
import Derived.OpenShut
import Derived.RowKit
import Derived.Lib.ItoaNum
import Derived.Lib.Join
import Derived.Lib.Repeat
import Derived.Lib.Bytealg
import Derived.Lib.IndexMore
import Derived.Lib.Atoi
import Derived.Test.YtdkfcdncamimmaaGreatDoorZD02
noncomputable section
open Go.RowKit (Below)
namespace Go.Di
/-! ### What a reading says of the data: the integers fit,nothing is too long -/
def zL6 (xs:List Int):Prop:=xs.length≤maxLen∧∀ n∈xs,(Lit.int .i64 n).wf=true
def Rt.wf (r:Rt):Prop:=zL6 r.mag∧zL6 r.den
def ST.wf:(t:ST)→t.El→Prop
 | .int,n=>(Lit.int .i64 n).wf=true
 | .byte,n=>(Lit.int .u8 n).wf=true
 | .str,s=>s.size≤maxLen
 | .rat,r=>r.wf
 | .sta,s=>s.name.size≤maxLen∧s.x.wf∧s.y.wf
 | .obs,o=>((Lit.int .i64 o.kind).wf=true∧(Lit.int .i64 o.frm).wf=true∧(Lit.int .i64 o.to).wf=true)∧o.value.wf∧o.variance.wf
 | .rats,l=>(show List Rt from l).length≤maxLen∧∀ r∈(show List Rt from l),Rt.wf r
def CK.wf:(c:CK)→c.ty→Prop
 | .int k,n=>(Lit.int k n).wf=true
 | .bool,_=>True
 | .str,s=>s.size≤maxLen
 | .sl t,xs=>(show List t.El from xs).length≤maxLen∧∀ x∈(show List t.El from xs),t.wf x
 | .nat,_=>True
def Tys.wf:(cs:List CK)→Tys cs→Prop
 | [],_=>True
 | c :: cs,x=>c.wf x.1∧Tys.wf cs x.2
theorem ST.zRy (t:ST) (x:Tys t.kinds) (h:Tys.wf t.kinds x):t.wf (t.mk x):=by
 cases t with
 | int=>exact h.1
 | byte=>exact h.1
 | str=>exact h.1
 | rat=>exact ⟨h.2.1,h.2.2.1⟩
 | sta=>exact ⟨h.1,⟨h.2.2.1,h.2.2.2.1⟩,h.2.2.2.2.2.1,h.2.2.2.2.2.2.1⟩
 | obs=>exact ⟨⟨h.1,h.2.1,h.2.2.1⟩,⟨h.2.2.2.2.1,h.2.2.2.2.2.1⟩,h.2.2.2.2.2.2.2.1,h.2.2.2.2.2.2.2.2.1⟩
 | rats=>exact h.1
theorem ST.zgc (t:ST) (x:Tys t.kinds):t.cells (t.mk x)=Tys.cells t.kinds x:=by cases t<;>rfl
theorem Tys.zCI:∀ {cs ds:List CK} {x:Tys cs} {y:Tys ds},Tys.wf cs x→Tys.wf ds y→Tys.wf (cs++ds) (Tys.app cs ds x y)
 | [],_,_,_,_,h=>h
 | _ :: cs,_ds,_x,_y,h,k=>⟨h.1,Tys.zCI (cs:=cs) h.2 k⟩
theorem Tys.zup:∀ (cs ds:List CK) (x:Tys cs) (y:Tys ds),Tys.cells (cs++ds) (Tys.app cs ds x y)=Tys.cells cs x++Tys.cells ds y
 | [],_,_,_=>rfl
 | c :: cs,ds,x,y=>congrArg (c.cell x.1 :: ·) (Tys.zup cs ds x.2 y)
theorem znF:∀ (a b:List Cell),zcp (a++b)=zcp a++zcp b
 | [],_=>rfl
 | c :: a,b=>congrArg (A1.d c :: ·) (znF a b)
theorem zyy:∀ (l:List Cell) (j:Nat),(zcp l)[j]? = (l[j]?).map A1.d
 | [],j=>by simp[zcp]
 | c :: l,0=>by simp[zcp]
 | c :: l,j+1=>by simpa [zcp] using zyy l j
/-! ### Kinds of a type -/
def zQe:CK→CK→Bool
 | .int k,.int k'=>ziF k k'
 | .bool,.bool=>true
 | .str,.str=>true
 | .sl t,.sl u=>ST.eqb t u
 | _,_=>false
def zIk:List CK→List CK→Bool
  | [],[]=>true
  | c :: cs,d :: ds=>match zQe c d with
    | true=>zIk cs ds
    | false=>false
  | _,_=>false
theorem zJr {c d:CK} (h:zQe c d=true):c=d:=by
 cases c<;>cases d<;>first | rfl | (cases h; done) | skip
 ·rw[zh2 h]
 ·rename_i t u
  cases t<;>cases u<;>first | rfl | (cases h; done)
theorem zx9:∀ {cs ds:List CK},zIk cs ds=true→cs=ds
  | [],[],_=>rfl
  | c :: cs,d :: ds,h=>by
    unfold zIk at h
    split at h
    · rename_i h1; rw[zJr h1,zx9 h]
    · cases h
  | [],_ :: _,h=>by cases h
  | _ :: _,[],h=>by cases h
def zRo (ks:List CK):List ST→Option ST
  | []=>none
  | t :: r=>match zIk t.kinds ks with
    | true=>some t
    | false=>zRo ks r
def zSx (ks:List CK):Option ST:=zRo ks [.int,.byte,.str,.rat,.sta,.obs,.rats]
theorem zCQ {ks:List CK} {t:ST}:∀ {l:List ST},zRo ks l=some t→t.kinds=ks
  | [],h=>by cases h
  | u :: r,h=>by
    unfold zRo at h
    split at h
    · rename_i h1; cases h; exact zx9 h1
    · exact zCQ h
theorem zMG {ks:List CK} {t:ST} (h:zSx ks=some t):t.kinds=ks:=zCQ h
def fieldsK (P:Program) (f:TypeId→Option (List CK)):Nat→Nat→List Field→Option (List CK)
  | off,total,[]=>match Nat.beq off total with
    | true=>some []
    | false=>none
  | off,total,d :: fs=>match Nat.beq d.offset off,f d.type with
    | true,some ks=>match Nat.beq ks.length (P.cellsOf d.type),fieldsK P f (off+ks.length) total fs with
      | true,some r=>some (ks++r)
      | _,_=>none
    | _,_=>none
def tyK (P : Program):Nat→TypeId→Option (List CK)
  | 0,_=>none
  | n + 1, t=>match P.underlying t with
    | some .bool=>some [.bool]
    | some (.int k)=>some [.int k]
    | some .string=>some [.str]
    | some (.slice e)=>match tyK P n e with
      | some ks=>match zSx ks with
        | some st=>match Nat.beq (P.cellsOf e) st.size with
          | true=>some [.sl st]
          | false=>none
        | none=>none
      | none=>none
    | some (.struct fs)=>fieldsK P (tyK P n) 0 (P.cellsOf t) fs.toList
    | _=>none
section
variable {H:Type} {enc:TypeId × Value→H} {P:Program} {w:World} {base:Nat} {spare:Nat→Bool} {held:Bool}
def zgr (w:World):Cx:=znQ w fun _=>True
theorem zke {fp:List Nat} (h:∀ b∈fp,b < w.heap.size):(zgr w).fine fp :=
 fun b hb=>⟨h b hb,(by rintro ⟨n,e,v,h1,_⟩; cases h1),trivial⟩
theorem zBv {t:ST} {xs:List t.El} {k:Nat} {c:Cell} (h:(flat t xs)[k]? = some c):∃ i j x,k=i * t.size+j∧j < t.size∧i < xs.length∧xs[i]? = some x∧(t.cells x)[j]? = some c:=by
 have hp:=size_pos t
 have hlt:k < xs.length * t.size:=by rw[← zaQ]; exact (List.getElem?_eq_some_iff.1 h).1
 have hi:k / t.size < xs.length:=Nat.div_lt_of_lt_mul (by rw[Nat.mul_comm]; exact hlt)
 have hk:k=k / t.size * t.size+k % t.size:=by rw[Nat.mul_comm]; exact (Nat.div_add_mod k t.size).symm
 have hj:=Nat.mod_lt k hp
 refine ⟨k / t.size,k % t.size,xs[k / t.size],hk,hj,hi,by simp[hi],?_⟩
 rw[← flat_get t xs (k / t.size) _ (k % t.size) (by simp[hi]) hj,← hk]
 exact h
theorem zGw {a:Addr} {n:Nat} {cs:List Value} (h:w.cells? base a n=some cs):cs.length=n∧∀ j,j < n→w.cell? (a.add j)=cs[j]? := by
 unfold World.cells? at h
 split at h
 ·have hl:=mapM_some_length h
  refine ⟨by simpa using hl,fun j hj=>?_⟩
  have:=mapM_some_get h j j (by simp[hj])
  simpa using this
 ·cases h
theorem addr_add {a:Addr} (h:a.spot=none) (n:Nat):a.add n=⟨a.block,a.off+n,none⟩:=by
 unfold Addr.add
 split
 ·subst_vars; cases a; simp_all
 ·rfl
theorem cell_spot {a:Addr} {v:Value} (h:w.cell? a=some v):a.spot=none∧a.block < w.heap.size:=by
 unfold World.cell? at h
 split at h
 ·rename_i c T fr hc
  split at h
  ·cases h
  ·rename_i hs
   refine ⟨by cases hx:a.spot<;>simp_all,(Array.getElem?_eq_some_iff.1 hc).1⟩
 ·cases h
theorem fieldsK_ok {n m:Nat} {cs:List Value} {total:Nat} (hlen:cs.length=total) (ih:∀ (t:TypeId) (cs:List Value) (x:DataW H × List MemPlace) (ks:List CK),DataW.trod enc P w base spare held m t cs=some x→tyK P n t=some ks→∃ y:Tys ks,zdF (zgr w) (zcp (Tys.cells ks y)) cs∧Tys.wf ks y) :
    ∀ (fs:List Field) (off:Nat) (ks:List CK),fieldsK P (tyK P n) off total fs=some ks→(∀ (i:Nat) (f:Field),fs[i]? = some f→∃ x,DataW.trod enc P w base spare held m f.type ((cs.drop f.offset).take (P.cellsOf f.type))=some x) →
      ∃ y:Tys ks,zdF (zgr w) (zcp (Tys.cells ks y)) (cs.drop off)∧Tys.wf ks y
  | [],off,ks,h,_=>by
    unfold fieldsK at h
    split at h
    · rename_i hb
      cases h
      have:off=total:=Nat.eq_of_beq_eq_true hb
      refine ⟨(),?_,trivial⟩
      rw[List.drop_of_length_le (by omega)]; trivial
    · cases h
  | d :: fs,off,ks,h,hx=>by
    unfold fieldsK at h
    split at h
    · rename_i ks1 hb hk
      split at h
      · rename_i r hl hr
        cases h
        have ho:d.offset=off:=Nat.eq_of_beq_eq_true hb
        have hn:ks1.length=P.cellsOf d.type:=Nat.eq_of_beq_eq_true hl
        obtain ⟨x,hx0⟩:=hx 0 d rfl
        obtain ⟨y,q1,q2⟩:=ih d.type _ x ks1 hx0 hk
        obtain ⟨z,q3,q4⟩:=fieldsK_ok hlen ih fs (off+ks1.length) r hr (fun i f hf=>hx (i+1) f (by simpa using hf))
        refine ⟨Tys.app ks1 r y z,?_,Tys.zCI q2 q4⟩
        rw[Tys.zup,znF]
        have e:cs.drop off=(cs.drop d.offset).take (P.cellsOf d.type)++cs.drop (off+ks1.length):=by
          rw[ho,hn,← List.drop_drop,List.take_append_drop]
        rw[e]
        exact q1.append q3
      · cases h
    · cases h
theorem tyK_ok : ∀ (n:Nat) (t:TypeId) (m:Nat) (cs:List Value) (x:DataW H × List MemPlace) (ks:List CK),DataW.trod enc P w base spare held m t cs=some x→tyK P n t=some ks →
    ∃ y:Tys ks,zdF (zgr w) (zcp (Tys.cells ks y)) cs∧Tys.wf ks y
  | 0,t,m,cs,x,ks,h,hk=>by cases hk
  | n + 1, t, m, cs, x,ks,h,hk=>by
    unfold tyK at hk
    split at hk
    · rename_i ht
      cases hk
      obtain ⟨b,rfl,_⟩:=DataW.trod_bool ht h
      exact ⟨(b,()),⟨⟨[],.bool b,zke (by intro b hb; cases hb)⟩,rfl,trivial⟩,trivial,trivial⟩
    · rename_i k ht
      cases hk
      obtain ⟨m,rfl,_,hw⟩:=DataW.trod_int ht h
      exact ⟨(m,()),⟨⟨[],.int k m,zke (by intro b hb; cases hb)⟩,rfl,trivial⟩,hw,trivial⟩
    · rename_i ht
      cases hk
      obtain ⟨s,rfl,_,hw⟩:=DataW.trod_string ht h
      exact ⟨(s,()),⟨⟨[],.str s,zke (by intro b hb; cases hb)⟩,rfl,trivial⟩,hw,trivial⟩
    · rename_i e ht
      split at hk
      · rename_i ks1 hk1
        split at hk
        · rename_i st hst
          split at hk
          · rename_i hsz
            cases hk
            have hks:=zMG hst
            subst hks
            have hsz:=Nat.eq_of_beq_eq_true hsz
            rcases DataW.trod_slice ht h with ⟨rfl,_⟩ | ⟨a,len,cap,elems,rest,m',hm,rfl,_,hb,hl,hc,hlen,hel,_,_⟩
            · exact ⟨(([]:List st.El),()),⟨⟨[],.emp none st 0,zke (by intro b hb; cases hb)⟩,rfl,trivial⟩,⟨Nat.zero_le _,by intro x hx; cases hx⟩,trivial⟩
            · cases hm
              have each:∀ i,∃ y:st.El,i < len→∃ ci,w.cells? base (a.add (i * P.cellsOf e)) (P.cellsOf e)=some ci∧zdF (zgr w) (zcp (st.cells y)) ci∧st.wf y:=by
                intro i
                by_cases hi:i < len
                · have h1:=hel i hi
                  have h2:elems[i]? = some (elems[i]'(by omega)):=by simp
                  rw[h2,Option.bind_eq_some_iff] at h1
                  obtain ⟨ci,h3,h4⟩:=h1
                  obtain ⟨y,q1,q2⟩:=tyK_ok n e _ ci _ _ h4 hk1
                  exact ⟨st.mk y,fun _=>⟨ci,h3,by rw[ST.zgc]; exact q1,ST.zRy st y q2⟩⟩
                · have:Nonempty st.El:=by cases st<;>first | exact ⟨(0:Int)⟩ | exact ⟨ByteArray.empty⟩ | exact ⟨(⟨false,[],[]⟩:Rt)⟩ | exact ⟨(⟨ByteArray.empty,⟨false,[],[]⟩,⟨false,[],[]⟩,false⟩:Sta)⟩ | exact ⟨(⟨0,0,0,⟨false,[],[]⟩,⟨false,[],[]⟩⟩:Obs)⟩ | exact ⟨([]:List Rt)⟩
                  exact ⟨Classical.choice this,fun h=>absurd h hi⟩
              let f:Nat→st.El:=fun i=>Classical.choose (each i)
              have hf:∀ i,i < len→∃ ci,w.cells? base (a.add (i * P.cellsOf e)) (P.cellsOf e)=some ci∧zdF (zgr w) (zcp (st.cells (f i))) ci∧st.wf (f i):=fun i=>Classical.choose_spec (each i)
              let xs:List st.El:=(List.range len).map f
              have hxl:xs.length=len:=by simp[xs]
              have hxi:∀ i x,xs[i]? = some x→i < len∧x=f i:=by
                intro i x hx
                have hi:i < len:=by rw[← hxl]; exact (List.getElem?_eq_some_iff.1 hx).1
                simp[xs,hi] at hx
                exact ⟨hi,hx.symm⟩
              have hwf:CK.wf (.sl st) xs:=⟨by show xs.length≤maxLen; omega,fun x hx=>by
                obtain ⟨i,hi⟩:=List.getElem?_of_mem hx
                obtain ⟨h1,rfl⟩:=hxi i x hi
                obtain ⟨_,_,_,h2⟩:=hf i h1; exact h2⟩
              refine ⟨(xs,()),⟨?_,rfl,trivial⟩,hwf,trivial⟩
              by_cases hz:len=0
              · subst hz
                have:xs=[]:=rfl
                rw[this]
                exact ⟨[],.emp (some a) st cap,zke (by intro b hb; cases hb)⟩
              · have hpos:=size_pos st
                have hcell:∀ i j,i < len→j < st.size→∃ v c,w.cell? ((a.add (i * st.size)).add j)=some v∧(st.cells (f i))[j]? = some c∧(zgr w).rd v c:=by
                  intro i j hi hj
                  obtain ⟨ci,h1,h2,_⟩:=hf i hi
                  obtain ⟨h3,h4⟩:=zGw h1
                  rw[hsz] at h3 h4
                  have hcj:j < (st.cells (f i)).length:=by rw[zas]; exact hj
                  have h5:(zcp (st.cells (f i)))[j]? = some (.d ((st.cells (f i))[j])):=by rw[zyy]; simp[hcj]
                  obtain ⟨v,h6,h7,_⟩:=h2.get h5
                  exact ⟨v,_,by rw[← hsz] at h4 ⊢; rw[h4 j (by omega)]; exact h6,by simp[hcj],h7⟩
                obtain ⟨v0,_,h0,_⟩:=hcell 0 0 (by omega) hpos
                have hsp:a.spot=none∧a.block < w.heap.size:=by
                  have:(a.add (0 * st.size)).add 0=a:=by simp[Addr.add]
                  rw[this] at h0; exact cell_spot h0
                have hcell':∀ k c,(flat st xs)[k]? = some c→∃ v,w.cell? ⟨a.block,a.off+k,none⟩=some v∧(zgr w).rd v c:=by
                  intro k c hk
                  obtain ⟨i,j,x,rfl,hj,hi,hx,hc⟩:=zBv hk
                  obtain ⟨hi',rfl⟩:=hxi i x hx
                  obtain ⟨v,c',q1,q2,q3⟩:=hcell i j hi' hj
                  rw[hc] at q2; cases q2
                  rw[addr_add hsp.1,addr_add rfl,Nat.add_assoc] at q1
                  exact ⟨v,q1,q3⟩
                have hch:∀ k:Nat,∃ p:Value × List Nat,∀ c:Cell,(flat st xs)[k]? = some c→w.cell? ⟨a.block,a.off+k,none⟩=some p.1∧Rd w p.1 c p.2∧(zgr w).fine p.2:=by
                  intro k
                  cases hk:(flat st xs)[k]? with
                  | none=>exact ⟨(undef,[]),fun c hc=>by cases hc⟩
                  | some c =>
                    obtain ⟨v,h1,fp,h2,h3⟩:=hcell' k c hk
                    exact ⟨(v,fp),fun c' hc'=>by cases hc'; exact ⟨h1,h2,h3⟩⟩
                let g:Nat→Value × List Nat:=fun k=>Classical.choose (hch k)
                have hg:∀ k c,(flat st xs)[k]? = some c→w.cell? ⟨a.block,a.off+k,none⟩=some (g k).1∧Rd w (g k).1 c (g k).2∧(zgr w).fine (g k).2:=fun k=>Classical.choose_spec (hch k)
                have ha:a=⟨a.block,a.off,none⟩:=by cases a; simp_all
                refine ⟨a.block :: (List.range (flat st xs).length).flatMap (fun k=>(g k).2),?_,zke ?_⟩
                · rw[ha]
                  exact .sl a.block a.off len cap st xs (fun k=>(g k).1) (fun k=>(g k).2) hxl.symm hl (fun k c hk=>(hg k c hk).1) (fun k c hk=>(hg k c hk).2.1)
                · intro b hb
                  rcases List.mem_cons.1 hb with rfl | hb
                  · exact hsp.2
                  · obtain ⟨k,hk,hb⟩:=List.mem_flatMap.1 hb
                    have hk':=List.mem_range.1 hk
                    exact ((hg k _ (List.getElem?_eq_getElem hk')).2.2 b hb).1
          · cases hk
        · cases hk
      · cases hk
    · rename_i fs ht
      obtain ⟨xs,m',rfl,_,hl,hxl,hx⟩:=DataW.trod_struct ht h
      have:=fieldsK_ok (n:=n) (cs:=cs) (total:=P.cellsOf t) hl (fun t cs x ks=>tyK_ok n t m' cs x ks) fs.toList 0 ks hk (fun i f hf=>by
        have hf':fs[i]? = some f:=by simpa using hf
        have hi:i < xs.length:=by rw[hxl]; exact (Array.getElem?_eq_some_iff.1 hf').1
        exact ⟨xs[i],by rw[hx i f hf']; simp⟩)
      simpa using this
    · cases hk
end
end Go.Di
open Go.RowKit (Below)
namespace Go.Di
open Go.WideShapes Go.ChangeShapes Go.RowKit
def parKs (P:Program):List TypeId→Option (List (Bool × List CK))
  | []=>some []
  | t :: ts=>match P.underlying t,tyK P 12 t with
    | some d,some ks=>match parKs P ts with
      | some r=>some ((zBT d,ks) :: r)
      | none=>none
    | _,_=>none
def insOf:List (Bool × List CK)→List CK
 | []=>[]
 | (_,ks) :: r=>ks++insOf r
def zBR (ar:List (Bool × List CK)):List (Bool × List C1T):=ar.map fun p=>(p.1,p.2.map C1T.d)
def toD:(ks:List CK)→Tys ks→Tys (ksL (ks.map C1T.d))
 | [],_=>()
 | _ :: cs,x=>(x.1,toD cs x.2)
theorem zyr:∀ (ks:List CK) (x:Tys ks),zrR (ks.map C1T.d) (toD ks x)=zcp (Tys.cells ks x)
 | [],_=>rfl
 | c :: cs,x=>congrArg (A1.d (c.cell x.1) :: ·) (zyr cs x.2)
def zL7:(ar:List (Bool × List CK))→Tys (insOf ar)→Tys (ksS ((zBR ar).map some))
 | [],_=>()
 | (_,ks) :: r,x=>Tys.app (ksL (ks.map C1T.d)) (ksS ((zBR r).map some)) (toD ks (Tys.fst ks (insOf r) x)) (zL7 r (Tys.snd ks (insOf r) x))
def ziW:(ar:List (Bool × List CK))→Tys (insOf ar)→List (Bool × List A1)
 | [],_=>[]
 | (b,ks) :: r,x=>(b,zcp (Tys.cells ks (Tys.fst ks (insOf r) x))) :: ziW r (Tys.snd ks (insOf r) x)
theorem ztS:∀ (ar:List (Bool × List CK)) (x:Tys (insOf ar)),encS ((zBR ar).map some) (zL7 ar x)=znP (ziW ar x)
  | [],_=>rfl
  | (b,ks) :: r,x=>by
    show AV.v b (zrR (ks.map C1T.d) (Tys.fst _ _ (Tys.app (ksL (ks.map C1T.d)) (ksS ((zBR r).map some)) (toD ks (Tys.fst ks (insOf r) x)) (zL7 r (Tys.snd ks (insOf r) x))))) ::
      encS ((zBR r).map some) (Tys.snd _ _ (Tys.app (ksL (ks.map C1T.d)) (ksS ((zBR r).map some)) (toD ks (Tys.fst ks (insOf r) x)) (zL7 r (Tys.snd ks (insOf r) x))))=_
    rw[zhH,zhG,zyr,ztS r]; rfl
def ztp (ar:List (Bool × List CK)):Sig:=⟨zBR ar,[],false,[(false,[.d .bool])],[]⟩
def noE:Tys (ksE []):=()
def zNd (ar:List (Bool × List CK)) (x:Tys (insOf ar)):Tys (ztp ar).tin.ks:=Tys.app (ksS ((zBR ar).map some)) (ksE []) (zL7 ar x) noE
section
variable {H:Type} {enc:TypeId × Value→H} {P:Program} {w:World} {base:Nat} {spare:Nat→Bool} {held:Bool}
theorem val_ok {n b0:Nat} {t:TypeId} {v:Value} {d:TypeDesc} {ks:List CK} {x:DataW H} {ps:List MemPlace} (ht:P.underlying t=some d) (hk:tyK P n t=some ks) (ho:Value.okWide P w .any b0 t v)
    (hd:DataW.Trod enc P w base spare held t v x ps):∃ y:Tys ks,VOk (zgr w) (zBT d) (zcp (Tys.cells ks y)) v∧Tys.wf ks y:=by
  obtain ⟨m,hm⟩:=hd
  obtain ⟨y,h1,h2⟩:=tyK_ok n t m _ _ ks hm hk
  refine ⟨y,?_,h2⟩
  have one:v.oneCell'=true→VOk (zgr w) false (zcp (Tys.cells ks y)) v:=by
    intro h
    have hc:v.cells=#[v]:=by cases v<;>first | rfl | (simp[Value.oneCell'] at h)
    rw[hc] at h1
    obtain ⟨a,e1,e2,e3⟩:=zxp h1
    exact ⟨a,e1,e2,.inr h⟩
  cases n with
  | zero=>cases hk
  | succ n =>
    unfold tyK at hk
    rw[ht] at hk
    cases d with
    | bool=>obtain ⟨b,rfl⟩:=okWide_bool ht ho; exact one rfl
    | int k=>obtain ⟨b,rfl⟩:=okWide_int ht ho; exact one rfl
    | string=>obtain ⟨b,rfl⟩:=okWide_string ht ho; exact one rfl
    | slice e=>obtain ⟨a,l,c,rfl⟩:=okWide_slice ht ho; exact one rfl
    | struct fs =>
      unfold Value.okWide at ho
      rw[ht] at ho
      obtain ⟨cs,rfl,_,_⟩:=ho
      exact ⟨cs,rfl,h1⟩
    | _=>cases hk
theorem zuH {b0:Nat}:∀ {ts:List TypeId} {vs:List Value} {ds:List (DataW H)} {ps:List MemPlace} {ar:List (Bool × List CK)},parKs P ts=some ar→DataW.TrodAll enc P w base spare held ts vs ds ps →
    (∀ (j:Nat) t v,ts[j]? = some t→vs[j]? = some v→Value.okWide P w .any b0 t v)→∃ y:Tys (insOf ar),zpB (zgr w) (ziW ar y) vs∧Tys.wf (insOf ar) y∧ds.length=ts.length
  | [],[],[],ps,ar,h,_,_=>by cases h; exact ⟨(),trivial,trivial,rfl⟩
  | t :: ts,v :: vs,d :: ds,ps,ar,h,⟨p,q,h1,h2,_⟩,ho=>by
    unfold parKs at h
    split at h
    · rename_i de ks hde hks
      split at h
      · rename_i r hr
        cases h
        obtain ⟨y,q1,q2⟩:=val_ok hde hks (ho 0 t v rfl rfl) h1
        obtain ⟨z,q3,q4,q5⟩:=zuH hr h2 fun j t v e1 e2=>ho (j+1) t v (by simpa using e1) (by simpa using e2)
        refine ⟨Tys.app ks (insOf r) y z,?_,Tys.zCI q2 q4,by simp[q5]⟩
        show VOk (zgr w) (zBT de) (zcp (Tys.cells ks (Tys.fst ks (insOf r) (Tys.app ks (insOf r) y z)))) v∧zpB (zgr w) (ziW r (Tys.snd ks (insOf r) (Tys.app ks (insOf r) y z))) vs
        rw[zhH,zhG]
        exact ⟨q1,q3⟩
      · cases h
    · cases h
  | [],_ :: _,_,_,_,_,h,_=>h.elim
  | [],[],_ :: _,_,_,_,h,_=>h.elim
  | _ :: _,[],_,_,_,_,h,_=>h.elim
  | _ :: _,_ :: _,[],_,_,_,h,_=>h.elim
theorem znt {sp':Nat→Bool} (hl:laidOutB P=true) {W W':World}:∀ {ts:List TypeId} {vs:List Value} {ds:List (DataW H)} {ps:List MemPlace},(ts.all fun t=>P.readableRec t && Nat.blt t P.types.size)=true →
    DataW.TrodAll enc P W base (fun _=>true) true ts vs ds ps→(∀ p∈ps,W.sameAt W' p)→(∀ p∈ps,sp' p.block=true)→DataW.TrodAll enc P W' base sp' true ts vs ds ps
  | [],[],[],ps,_,h,_,_=>h
  | t :: ts,v :: vs,d :: ds,ps,hr,⟨p,q,h1,h2,e⟩,hs,hp=>by
    subst e
    simp only[List.all_cons,Bool.and_eq_true] at hr
    exact ⟨p,q,WideElems.Trod_stays hl hr.1.1 (Nat.le_of_ble_eq_true hr.1.2) h1 (fun x hx=>hs x (List.mem_append_left _ hx)) (fun x hx=>hp x (List.mem_append_left _ hx)),
      znt hl hr.2 h2 (fun x hx=>hs x (List.mem_append_right _ hx)) (fun x hx=>hp x (List.mem_append_right _ hx)),rfl⟩
  | [],_ :: _,_,_,_,h,_,_=>h.elim
  | [],[],_ :: _,_,_,h,_,_=>h.elim
  | _ :: _,[],_,_,_,h,_,_=>h.elim
  | _ :: _,_ :: _,[],_,_,h,_,_=>h.elim
def FixIn (F:Nat→Option (Array Value→Prop)) (w:World):Prop:=∀ b p,F b=some p→∃ cs t fr,w.heap[b]? = some (.cells cs t fr)∧p cs
theorem zNc {F:Nat→Option (Array Value→Prop)} (hF:FixIn F w) {ar:List (Bool × List CK)} {y:Tys (insOf ar)} {args:Array Value} (h:zpB (zgr w) (ziW ar y) args.toList) :
  Gam ⟨fun b=>b < w.heap.size,w,fun _=>True,fun _=>none,F,fun _=>True⟩ ((ztp ar).tin.enc (zNd ar y)) NoX (fun _=>none) args w:=by
 have he:(ztp ar).tin.enc (zNd ar y)=⟨znP (ziW ar y),[]⟩:=by
  have h1:Tys.fst (ksS ((zBR ar).map some)) (ksE []) (Tys.app (ksS ((zBR ar).map some)) (ksE []) (zL7 ar y) noE)=zL7 ar y:=zhH _ _ _ _
  show St.mk (encS ((zBR ar).map some) (Tys.fst (ksS ((zBR ar).map some)) (ksE []) (Tys.app (ksS ((zBR ar).map some)) (ksE []) (zL7 ar y) noE))) []=_
  rw[h1,ztS]
 rw[he]
 refine ⟨by rw[zjn,h.length]; simp,fun t av _ ht=>?_,fun m e v h1 _=>(by cases h1),fun m k e f u v b h1=>(by cases h1),fun b hb=>(by obtain ⟨m,e,v,h1,_⟩:=hb; cases h1),fun _ h=>h,Kp.refl _ _,fun n v hp=>(by cases hp),fun n hn=>(by cases hn),fun n e h1=>(by cases h1),fun b p hp=>by
  obtain ⟨cs,t,fr,h1,h2⟩:=hF b p hp
  exact ⟨⟨trivial,(Array.getElem?_eq_some_iff.1 h1).1⟩,cs,t,fr,h1,h2⟩⟩
 obtain ⟨p,hp,rfl⟩:=zpw ht
 obtain ⟨v,hv,hok⟩:=h.get hp
 have:args.getD t undef=v:=by rw[Array.getD_eq_getD_getElem?,← Array.getElem?_toList,hv]; rfl
 rw[this]
 have hle:Le (zgr w) (cx ⟨fun b=>b < w.heap.size,w,fun _=>True,fun _=>none,F,fun _=>True⟩ ⟨znP (ziW ar y),[]⟩ (fun _=>none) w) (fun _=>True) :=
  ⟨fun _ h => .inr trivial,fun _ _ _=>rfl,Nat.le_refl _,fun b _ _ ht=>(by obtain ⟨m,e,v,h1,_⟩:=ht; cases h1),fun _ _ => .inl rfl,fun _ _ _ _ _ _ h=>by cases h⟩
 exact hle.v (zga _) hok
theorem law_calls {F:Nat→Option (Array Value→Prop)} {f:FuncId} {fn:Func} {s:ChangeSpec} {apart fresh handsOn again:Bool} {W:World} {b0:Nat} {args:Array Value} {ds gs:List (DataW H)} {before:List MemPlace} {ar:List (Bool × List CK)}
  {run:Tys (ztp ar).tin.ks→Option Bool} {t:TypeId}
  (hM:zax P F f ⟨ztp ar,Bool,run,fun b=>(b,())⟩) (hs:parKs P fn.params.toList=some ar) (hrun:∀ x:Tys (insOf ar),Tys.wf (insOf ar) x→run (zNd ar x)=some true)
  (hl:laidOutB P=true) (hread:(fn.params.toList.all fun t=>P.readableRec t && Nat.blt t P.types.size)=true) (hrt:fn.resultTypes=#[t]) (ht:P.underlying t=some .bool)
  (hv:s.vars=[]) (hspec:∀ ds:List (DataW H),ds.length=fn.params.toList.length→s.fn H (ds++[])={ results:=[.lit (.bool true)],args:=ds })
  (hval:∀ (j:Nat) t v,fn.params[j]? = some t→args[j]? = some v→Value.okWide P W .any b0 t v)
  (hW:DataW.Whole enc P fn.params.toList s.vars apart W args.toList ds gs before) (hF:FixIn F W) :
  Calls P f args W fun e W'=>∃ v,e = .returned v∧s.post enc P fn apart fresh handsOn again W args v W':=by
 have hW0:=hW
 obtain ⟨p,q,hA,hV,rfl,hfz,hnd⟩:=hW
 rw[hv] at hV
 obtain ⟨rfl,rfl⟩:=trodVars_none hV
 obtain ⟨y,h1,h2,h3⟩:=zuH (b0:=b0) hs hA fun j t v e1 e2=>hval j t v (by simpa using e1) (by simpa using e2)
 have hy:=hrun y h2
 have hc:=hM _ W _ args _ _ rfl hy (zNc hF h1)
 refine hc.mono fun e W' ⟨vs,β',he,hkp,hG⟩=>⟨_,he,?_⟩
 have hb:Below W.heap.size W W':=⟨hkp.os,hkp.tape,hkp.output,hkp.size,hkp.block⟩
 have hsp:=hspec ds h3
 have hvv:znK false vs = .bool true:=by
  have hv':zbn _ (.v false [.d (.bool true)]) (vs.getD 0 undef):=hG.env 0 _ (fun h=>h) rfl
  obtain ⟨a,e1,e2,_⟩:=(show VOk _ false [.d (.bool true)] (vs.getD 0 undef) from hv')
  cases e1
  obtain ⟨fp,hr,_⟩:=(e2:Cx.rd _ (vs.getD 0 undef) (.bool true))
  show vs.getD 0 undef=_
  generalize vs.getD 0 undef=v at hr
  cases hr; rfl
 show s.post enc P fn apart fresh handsOn again W args (znK false vs) W'
 rw[hvv]
 have hlt:∀ x∈p++[],x.block < W.heap.size:=fun x hx=>hW0.lt x hx
 have hold:∀ x∈p++[],(fun b=>decide (b < W.heap.size)) x.block=true:=fun x hx=>by simpa using hlt x hx
 have hres:∀ (b:Nat) (sp:Nat→Bool) (hd:Bool),DataW.TrodAll enc P W' b sp hd fn.resultTypes.toList ((Value.bool true).resultList fn.resultTypes.size) (s.fn H (ds++[])).results []:=by
  intro b sp hd
  rw[hrt,hsp]
  exact trodAll_cons_mk (shut_bool ht true) rfl
 have hargs:∀ sp:Nat→Bool,(∀ x∈p++[],sp x.block=true)→DataW.TrodAll enc P W' 0 sp true fn.params.toList args.toList (s.fn H (ds++[])).args p:=by
  intro sp hsp'
  rw[hsp]
  exact znt hl hread hA (fun x hx=>hb.same (hlt x (by simpa using hx))) (fun x hx=>hsp' x (by simpa using hx))
 have hvars:∀ sp:Nat→Bool,DataW.TrodVars enc P W' sp s.vars (s.fn H (ds++[])).vars []:=by
  intro sp
  rw[hv,hsp]; rfl
 refine ⟨ds,[],p++[],[],p,[],hW0,hres _ _ _,hargs _ hold,hvars _,World.keptBut_mono (fun x hx=>⟨hx,?_⟩) (hb.frame (·∈p++[])),fun _=>?_⟩
 ·exact .inr (.inl (by simpa using hx))
 ·refine ⟨ok_one hrt rfl (okWide_bool_mk ht _),_,_,([]++p)++[],⟨[]++p,[],trodAll_append (hargs _ (fun _ _=>rfl)) (hres _ _ _),hvars _,rfl,?_,?_⟩,?_⟩
  ·intro b off hp
   have hin:MemPlace.cell b off∈p++[]:=by simpa using hp
   rw[hb.frozen (hlt _ hin)]
   exact hfz b off hin
  ·intro ha
   have:=hnd ha
   simpa using this
  ·intro x hx _
   simpa using hx
end
end Go.Di
namespace Go.Di
structure Bg where
 neg:Bool
 mag:List Int
structure Cur where
 b:List Int
 i:Int
 h:Int
structure Mx where
 rows:Int
 cols:Int
 cells:List Rt
structure Net where
 plane:Bool
 stations:List Sta
structure Bk where
 plane:Bool
 stations:List Sta
 obs:List Obs
structure Rdn where
 rows:Int
 cols:Int
 cells:List Rt
 pivots:List Int
 factors:List Rt
end Go.Di
namespace Go.Di
def zyp (i:Nat):List (Nat × Bool × List C1T)→Option (Bool × List C1T)
  | []=>none
  | (j,x) :: r=>match Nat.beq i j with
    | true=>some x
    | false=>zyp i r
def zaj (l:List (Nat × Bool × List C1T)):Nat→Nat→List (Option (Bool × List C1T))
 | 0,_=>[]
 | n+1,i=>zyp i l :: zaj l n (i+1)
theorem zae {P:Program} {F:Nat→Option (Array Value→Prop)}:zak P F []:=fun f c h=>by cases h
theorem zaa {P:Program} {F:Nat→Option (Array Value→Prop)} {f:FuncId} {c:Con} {r:List (FuncId × Con)} (h:zax P F f c) (hc:Callable P f) (hr:zak P F r):zak P F ((f,c) :: r):=by
 intro g d hg
 unfold zjx at hg
 split at hg
 ·rename_i hb
  cases hg
  rw[Nat.eq_of_beq_eq_true hb]; exact ⟨h,hc⟩
 ·exact hr g d hg
def callB (fn : Func) : Bool := !(fn.name == "runtime.NumGoroutine") && !fn.body.isNone
theorem zab {P:Program} {f:FuncId} {fn:Func} (h:P.funcs[f]? = some fn) (hb:callB fn=true):Callable P f:=by
 unfold callB at hb
 simp only[Bool.and_eq_true,Bool.not_eq_true'] at hb
 exact ⟨fn,h,hb.1,hb.2⟩
def zHe (P:Program) (F:Nat→Option (Array Value→Prop)) (E:Env):List Code→Prop
 | []=>True
 | b :: r=>(∃ m,zlk (keyOf b) E.loops=some m∧zaR P F m b)∧zHe P F E r
theorem zac {P:Program} {F:Nat→Option (Array Value→Prop)} {E:Env} {c:Code} {l:List Code} (h:zad c=l) (hl:zHe P F E l):∀ b∈zad c,∀ m,zlk (keyOf b) E.loops=some m→zaR P F m b:=by
  rw[h]
  clear h
  induction l with
  | nil=>intro b hb; cases hb
  | cons a r ih =>
    intro b hb m hm
    rcases List.mem_cons.1 hb with rfl | hb
    · obtain ⟨⟨m',h1,h2⟩,_⟩:=hl
      rw[hm] at h1; cases h1; exact h2
    · exact ih hl.2 b hb m hm
theorem zau {P:Program} {F:Nat→Option (Array Value→Prop)} {E:Env} (hm:P.follows .mixedOrders=true) (hL:zdE P E.lay) (hC:zak P F E.cons) {D:LoopD} {body:Code} {f:Tys D.head.ks→Option (zd2 D.outs)} (hD:zhE E.plans body=true)
  (hl:∀ b∈zad body,∀ m,zlk (keyOf b) E.loops=some m→zaR P F m b) {S:Tys D.head.ks→Option (Tys D.head.ks ⊕ zd2 D.outs)} (hS:∀ x,stepL E D body x=S x)
  (hf:∀ x y,f x=some y→whileO S x=some y):zaR P F (zbO D f) body :=
 loop_ok hm hL hC hD hl fun x y h=>by rw[show stepL E D body=S from funext hS]; exact hf x y h
end Go.Di
open Go.RowKit (Below)
namespace Go.Di
def zd3 (n:Int):Option ByteArray :=
 (zah (decide (-9223372036854775808≤n) && decide (n≤9223372036854775807))).bind fun _=>some ⟨(Lib.itoa n).toArray⟩
def zge (l:List ByteArray) (sep:ByteArray):Option ByteArray :=
 (zah (Nat.ble l.length 140737488355328 && Nat.ble (Lib.join (l.map (·.data.toList)) sep.data.toList).length 140737488355328)).bind fun _=>some ⟨(Lib.join (l.map (·.data.toList)) sep.data.toList).toArray⟩
def zeZ (s:ByteArray) (c:Int):Option ByteArray :=
 (zah (decide (0≤c) && decide (c≤9223372036854775807) && Nat.ble (s.size * c.toNat) 140737488355328)).bind fun _=>some ⟨(Lib.repeatL s.data.toList c.toNat).toArray⟩
theorem zh6 {α:Type} {b:Bool} {f:Unit→Option α} {y:α} (h:(zah b).bind f=some y):b=true∧f ()=some y:=by
 cases b with
 | true=>exact ⟨rfl,h⟩
 | false=>cases h
section
variable {C:Bs} {s:St} {X:Nat→Prop} {β:Nat→Option Value} {args:Array Value} {w w':World}
theorem zli (g:Gam C s NoX β args w) {j:Nat} {c:Cell} (h:s.env[j]? = some (.v false [.d c])):(cx C s β w).rd (args.getD j undef) c:=by
 obtain ⟨a,e1,e2,_⟩:=(show VOk _ false [.d c] (args.getD j undef) from g.env j _ (fun h=>h) h)
 cases e1
 exact e2
theorem zQq (h:args.size=1) {a:Value} (h0:args.getD 0 undef=a):args=#[a]:=by
 apply Array.ext
 ·simpa using h
 ·intro i h1 h2
  have:i=0:=by omega
  subst this
  simp[Array.getD,h] at h0
  simpa using h0
theorem zKg (h:args.size=2) {a b:Value} (h0:args.getD 0 undef=a) (h1:args.getD 1 undef=b):args=#[a,b]:=by
 apply Array.ext
 ·simpa using h
 ·intro i h2 h3
  rcases (show i=0∨i=1 by omega) with rfl | rfl
  ·simp[Array.getD,h] at h0
   simpa using h0
  ·simp[Array.getD,h] at h1
   simpa using h1
def zQu:Cell→Value→Prop
 | .int k n,v=>v = .int k n
 | .bool b,v=>v = .bool b
 | .str s,v=>v = .string s
 | .sl _ _,_=>False
theorem zqI (g:Gam C s NoX β args w) (hb:Below w.heap.size w w') {av:List AV} {vs:Array Value} (hl:av.length=vs.size)
  (h:∀ (j:Nat) a,av[j]? = some a→a = .v false [.bot]∨∃ c,a = .v false [.d c]∧zQu c (vs.getD j undef)) :
  Gam C ⟨av,[]⟩ NoX (fun _=>none) vs w':=by
 refine ⟨hl,fun t a _ ht=>?_,fun m e v h1 _=>(by cases h1),fun m k e f u v b h1=>(by cases h1),fun b hb'=>(by obtain ⟨m,e,v,h1,_⟩:=hb'; cases h1),fun b hk=>Nat.lt_of_lt_of_le (g.kb b hk) hb.size,g.below.trans (Kp.of hb g.kb),fun n v _ hn=>(by cases hn),g.np,fun n e h1=>(by cases h1),g.fx⟩
 rcases h t a ht with rfl | ⟨c,rfl,hp⟩
 ·exact ⟨_,rfl,trivial,.inl rfl⟩
 ·have:∃ fp,Rd w' (vs.getD t undef) c fp∧fp=[]:=by
   cases c with
   | int k n=>exact ⟨[],by rw[show vs.getD t undef=_ from hp]; exact .int k n,rfl⟩
   | bool b=>exact ⟨[],by rw[show vs.getD t undef=_ from hp]; exact .bool b,rfl⟩
   | str s=>exact ⟨[],by rw[show vs.getD t undef=_ from hp]; exact .str s,rfl⟩
   | sl _ _=>exact hp.elim
  obtain ⟨fp,h1,rfl⟩:=this
  exact ⟨_,rfl,⟨[],h1,fun b hb'=>by cases hb'⟩,.inr h1.ziA⟩
theorem zBu (g:Gam C s NoX β args w) (hb:Below w.heap.size w w'):Kp C.keep w w':=Kp.of hb g.kb
end
end Go.Di
namespace Go.Di
def zdK (s:ByteArray) (c:Int):Option Int:=some (Lib.indexByte s.data.toList c.toNat.toUInt8)
def zfy (s sep:ByteArray):Option (ByteArray × ByteArray × Bool) :=
 (zah (Nat.ble s.size 4294967280)).bind fun _=>some (⟨(Lib.cut s.data.toList sep.data.toList).1.toArray⟩,⟨(Lib.cut s.data.toList sep.data.toList).2.1.toArray⟩,(Lib.cut s.data.toList sep.data.toList).2.2)
def zeT (s:ByteArray):Option Int :=
 (zah (Nat.ble s.size 18)).bind fun _=>Lib.atoi s.data.toList
end Go.Di
