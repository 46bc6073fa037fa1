/-
  Own work: part 2 of the texts that the proof of the given statement leans on.
-/
import Derived.Test.YtemlaciidfaceaaGreatZD00
noncomputable section
open Go.RowKit (Below)
namespace Go.Di
def zjD (w:World) (β:Nat→Option Value) (old:Nat→Prop):Cx:=⟨w,fun _=>none,β,old⟩
def Cell.plain:Cell→Prop
  | .sl _ _ | .tok _=>False
  | _=>True
theorem Rd.plain {w w':World} {π π':Nat→Option Value} {v:Value} {c:Cell} {fp:List Nat} (h:Rd w π v c fp) (hc:c.plain):Rd w' π' v c []:=by
  cases h with
  | int k n=>exact .int k n
  | bool b=>exact .bool b
  | str s=>exact .str s
  | any v h=>exact .any v h
  | tok _ _ _ _ _ _=>exact hc.elim
  | emp a t cap=>exact hc.elim
  | sl b off len cap t xs _ _ _ _ _ _=>exact hc.elim
theorem zfv {x y:Cx} {v:Value} {c:Cell} (h:x.rd v c) (hc:c.plain):y.rd v c:=by
  obtain ⟨fp,h,_⟩:=h
  exact ⟨[],h.plain hc,by intro b hb; cases hb⟩
theorem Rd.bare {w w':World} {π π':Nat→Option Value} {v:Value} {c:Cell} {fp:List Nat} (h:Rd w π v c fp) (hc:∀ t xs,c ≠ .sl t xs) (ht:∀ i u,π i=some u→π' i=some u):Rd w' π' v c []:=by
  cases h with
  | int k n=>exact .int k n
  | bool b=>exact .bool b
  | str s=>exact .str s
  | any v h=>exact .any v h
  | tok a l c k h1 h2=>exact .tok a l c k (ht _ _ h1) (ht _ _ h2)
  | emp a t cap=>exact (hc t [] rfl).elim
  | sl b off len cap t xs _ _ _ _ _ _=>exact (hc t xs rfl).elim
theorem zKv {x y:Cx} {v:Value} {c:Cell} (h:x.rd v c) (hc:∀ t xs,c ≠ .sl t xs) (ht:∀ i u,zd5 x.β i=some u→zd5 y.β i=some u):y.rd v c:=by
  obtain ⟨fp,h,_⟩:=h
  exact ⟨[],h.bare hc ht,by intro b hb; cases hb⟩
theorem zC7 {t:ST} (ht:t.deep=false) {xs:List t.El} {i:Nat} {c:Cell} (h:(flat t xs)[i]? = some c):∀ u ys,c ≠ .sl u ys:=by
  have hm:c∈flat t xs:=List.mem_of_getElem? h
  simp only[flat,List.mem_flatMap] at hm
  obtain ⟨x,_,hx⟩:=hm
  intro u ys he
  subst he
  cases t<;>simp[ST.deep] at ht<;>simp[ST.cells] at hx
theorem zmB {x:Cx} {v:Value} {c:Cell} (h:x.rd v c) {old:Nat→Prop} (ho:∀ b,b < x.w.heap.size→¬ Top x.lk x.β b→x.av b→old b):(zjD x.w x.β old).rd v c:=by
  obtain ⟨fp,h1,h2⟩:=h
  exact ⟨fp,h1,fun b hb=>⟨(h2 b hb).1,(by rintro ⟨n,e,u,q,_⟩; cases q),ho b (h2 b hb).1 (h2 b hb).2.1 (h2 b hb).2.2⟩⟩
section
variable {P:Program} {C:Bs} {w w':World} {s s':St} {X:Nat→Prop} {β β':Nat→Option Value} {a:Act} {o:Oper} {tm:Array Value}
  {t:TypeId} {x y:Operand} {i:TI} {K:Act→World→Prop} {Q:Exit→Act→World→Prop}
def A1.zhQ (n:Nat):A1→Prop
  | .own m=>m=n
  | .win m _ _=>m=n
  | .dp m=>m=n
  | .dc m _ _ _=>m=n
  | _=>False
theorem zvr {x:Cx} {ys:List Int} {v:Value} (h:OwnI x ys v) {old:Nat→Prop} (ho:∀ k∈zaN v,old k):(zjD x.w x.β old).rd v (.sl .int ys):=by
  rcases h with ⟨h0,ad,h1⟩ | ⟨g,cap,cur,T,h1,h2,h3,h4,h5,h6,h7⟩
  · subst h0; subst h1; exact ⟨[],.emp ad .int 0,by intro b hb; cases hb⟩
  · have hg:g∈zaN v:=by rw[h1]; cases cap with | zero=>omega | succ k=>simp[zaN]
    have hold:=ho g hg
    subst h1
    exact zit (x:=zjD x.w x.β old) (t := .int) h3 h5 (by rintro ⟨n,e,u,h1,_⟩; cases h1) hold fun i c hi=>by
      obtain ⟨u,hu,hr⟩:=h7 i c hi
      obtain ⟨n,rfl⟩:=zxz hi
      exact ⟨u,hu,zfv hr trivial⟩
theorem zLR {x:Cx} {u b:Value} {c:Cell} (h:zdH x u c b) {old:Nat→Prop} (ho:∀ k∈zaN b,old k):(zjD x.w x.β old).rd u c:=by
  cases c with
  | int k n=>exact zfv h.2 trivial
  | bool b=>exact zfv h.2 trivial
  | str s=>exact zfv h.2 trivial
  | sl t xs =>
    cases t with
    | int=>exact zvr h.2 (by rw[← h.1]; exact ho)
    | _=>exact h.elim
  | tok k=>exact h.elim
  | any=>exact h.elim
theorem zDi {x:Cx} {t:ST} {xs:List t.El} {v:Value} {vs:Array Value} (h:DeepOk x t xs (.tuple vs)) (h0:vs[0]? = some v) {old:Nat→Prop} (ho:∀ k∈zao (.tuple vs),old k):(zjD x.w x.β old).rd v (.sl t xs):=by
  obtain ⟨s,us,h1,h2,_,_,h4⟩:=h
  cases h1
  have hs:s=v:=by simpa using h0
  subst hs
  have ho':∀ u∈s :: us,∀ k∈zaN u,old k:=fun u hu k hk=>ho k (List.mem_flatMap.2 ⟨u,by simpa using hu,hk⟩)
  rcases h4 with ⟨k0,ad,k1⟩ | ⟨g,cap,cur,T,k1,k2,k3,k4,k5,k6,k7⟩
  · subst k0; subst k1; exact ⟨[],.emp ad t 0,by intro b hb; cases hb⟩
  · have hg:g∈zaN s:=by rw[k1]; cases cap with | zero=>omega | succ k=>simp[zaN]
    have hold:=ho' s (List.mem_cons_self ..) g hg
    subst k1
    exact zit (x:=zjD x.w x.β old) k3 k5 (by rintro ⟨n,e,u,h1,_⟩; cases h1) hold fun i c hi=>by
      obtain ⟨u,b,q1,q2,q3⟩:=k7 i c hi
      exact ⟨u,q1,zLR q3 (ho' b (List.mem_cons_of_mem _ (List.mem_of_getElem? q2)))⟩
theorem znh {x:Cx} {t:ST} {xs:List t.El} {v:Value} {vs:Array Value} (h:DeepOk x t xs (.tuple vs)) {i off:Nat} {e:t.El} {ys:List Int} (he:xs[i]? = some e) (hoff:off < t.size) (hc:(t.cells e)[off]? = some (.sl .int ys))
    (hv:vs[1+i * t.size+off]? = some v):OwnI x ys v:=by
  obtain ⟨s,us,h1,h2,_,_,h4⟩:=h
  cases h1
  have hf:(flat t xs)[i * t.size+off]? = some (.sl .int ys):=(flat_get t xs i e off he hoff).trans hc
  have hv':us[i * t.size+off]? = some v:=by
    have:1+i * t.size+off=(i * t.size+off)+1:=by omega
    rw[this] at hv
    simpa using hv
  rcases h4 with ⟨k0,_⟩ | ⟨g,cap,cur,T,k1,k2,k3,k4,k5,k6,k7⟩
  · subst k0; cases he
  · obtain ⟨u,b,q1,q2,q3⟩:=k7 _ _ hf
    rw[hv'] at q2; cases q2
    have h1:v=u:=q3.1
    rw[h1]; exact q3.2
theorem zpg {x:Cx} {t:ST} {xs:List t.El} {v:Value} {vs:Array Value} (h:DeepF x t xs (.tuple vs)) (h0:vs[0]? = some v):x.rd v (.sl t xs):=by
  obtain ⟨s,us,h1,_,h4⟩:=h
  cases h1
  have hs:s=v:=by simpa using h0
  subst hs
  rcases h4 with ⟨k0,ad,k1⟩ | ⟨g,cap,k1,k2,k3,k4⟩
  · subst k0; subst k1; exact ⟨[],.emp ad t 0,by intro b hb; cases hb⟩
  · subst k1
    have hch:∀ i:Nat,∃ p:Value × List Nat,∀ c:Cell,(flat t xs)[i]? = some c→x.w.cell? ⟨g,0+i,none⟩=some p.1∧Rd x.w (zd5 x.β) p.1 c p.2∧x.fine p.2:=by
      intro i
      cases hi:(flat t xs)[i]? with
      | none=>exact ⟨(undef,[]),fun c hc=>by cases hc⟩
      | some c =>
        obtain ⟨u,_,hu,_,⟨fp,h1,h2⟩,_⟩:=k4 i c hi
        exact ⟨(u,fp),fun c' hc'=>by cases hc'; exact ⟨hu,h1,h2⟩⟩
    have hex:∃ f:Nat→Value × List Nat,∀ (i:Nat) (c:Cell),(flat t xs)[i]? = some c→x.w.cell? ⟨g,0+i,none⟩=some (f i).1∧Rd x.w (zd5 x.β) (f i).1 c (f i).2∧x.fine (f i).2 :=
      ⟨fun i=>Classical.choose (hch i),fun i=>Classical.choose_spec (hch i)⟩
    obtain ⟨f,hF⟩:=hex
    refine ⟨_,.sl g 0 xs.length cap t xs (fun i=>(f i).1) (fun i=>(f i).2) rfl k2 (fun i c hi=>(hF i c hi).1) (fun i c hi=>(hF i c hi).2.1),?_⟩
    intro b hb
    rcases List.mem_cons.1 hb with rfl | hb
    · exact k3 b (List.mem_cons_self ..)
    · obtain ⟨i,hi,hb⟩:=List.mem_flatMap.1 hb
      exact (hF i _ (List.getElem?_eq_getElem (List.mem_range.1 hi))).2.2 b hb
theorem zok {x:Cx} {t:ST} {xs:List t.El} {v:Value} {vs:Array Value} (h:DeepF x t xs (.tuple vs)) {i off:Nat} {e:t.El} {ys:List Int} (he:xs[i]? = some e) (hoff:off < t.size) (hc:(t.cells e)[off]? = some (.sl .int ys))
    (hv:vs[1+i * t.size+off]? = some v):x.rd v (.sl .int ys):=by
  obtain ⟨s,us,h1,_,h4⟩:=h
  cases h1
  have hf:(flat t xs)[i * t.size+off]? = some (.sl .int ys):=(flat_get t xs i e off he hoff).trans hc
  have hv':us[i * t.size+off]? = some v:=by
    have:1+i * t.size+off=(i * t.size+off)+1:=by omega
    rw[this] at hv
    simpa using hv
  rcases h4 with ⟨k0,_⟩ | ⟨g,cap,k1,k2,k3,k4⟩
  · subst k0; cases he
  · obtain ⟨u,b,q1,q2,q3,q4⟩:=k4 _ _ hf
    rw[hv'] at q2; cases q2
    rw[q4 ys rfl]; exact q3
theorem as_arg (g:Gam C s X β tm w) {b:A1} {c:CK} {y:c.ty} {v:Value} (hb:A1Ok (cx C s β w) b v) (h:b.as s.ents c=some y) {old:Nat→Prop}
    (ho:∀ b,b < w.heap.size→¬ Top (cx C s β w).lk β b→(cx C s β w).av b→old b)
    (hown:∀ n fr t xs u,b.zhQ n→look n s.ents=some (.arr fr t xs)→β n=some u→fr=false→∀ k∈zao u,old k)
    (hdeep:∀ n t xs u,b.zhQ n→look n s.ents=some (.deep false t xs)→β n=some u→∀ k∈zao u,old k) :
    (zjD w β old).rd v (c.cell y):=by
  have arr : ∀ n fr t xs u,b.zhQ n→look n s.ents=some (.arr fr t xs)→β n=some u→(zjD w β old).rd u (.sl t xs):=by
    intro n fr t xs u hb hl hu
    have he:=g.ents n _ _ hl hu
    cases fr with
    | true=>exact zmB (x:=cx C s β w) he ho
    | false =>
      rcases he with ⟨h0,ad,h1⟩ | ⟨gb,cap,cur,T,h1,h2,h3,h4,h5,h6,h7⟩
      · subst h0; subst h1; exact ⟨[],.emp ad t 0,by intro b hb; cases hb⟩
      · have hg:gb∈zao u:=by rw[h1]; cases cap with | zero=>omega | succ k=>simp[zao]
        have hold:=hown n false t xs u hb hl hu rfl gb hg
        subst h1
        exact zit (x:=zjD w β old) h3 h5 (by rintro ⟨n,e,u,h1,_⟩; cases h1) hold fun i c hi=>by
          obtain ⟨u,hu,hr⟩:=h7 i c hi; exact ⟨u,hu,zmB (x:=cx C s β w) hr ho⟩
  cases b with
  | bot=>cases c<;>cases h
  | lp _ _=>cases c<;>cases h
  | sp _ _=>cases c<;>cases h
  | fn _ _=>cases c<;>cases h
  | oe _ _ _=>cases c<;>cases h
  | de _ _ _=>cases c<;>cases h
  | dp n =>
    cases c with
    | sl t =>
      obtain ⟨fr,xs,hl,rfl⟩:∃ fr xs,look n s.ents=some (.deep fr t xs)∧xs=y:=by
        have h':(match look n s.ents with | some (.deep _ u xs)=>ST.cast u t xs | _=>none)=some y:=h
        cases hl:look n s.ents with
        | none=>rw[hl] at h'; cases h'
        | some f =>
          cases f with
          | box l=>rw[hl] at h'; cases h'
          | arr _ _ _=>rw[hl] at h'; cases h'
          | pool _=>rw[hl] at h'; cases h'
          | deep fr u xs=>rw[hl] at h'; obtain ⟨rfl,rfl⟩:=cast_eq h'; exact ⟨fr,_,rfl,rfl⟩
      obtain ⟨vs,k1,k2⟩:=hb (by simp[cx,hl])
      cases fr with
      | false=>exact zDi (x:=cx C s β w) (g.ents n _ _ hl k1) k2 (hdeep n t xs _ rfl hl k1)
      | true=>exact zmB (x:=cx C s β w) (zpg (g.ents n _ _ hl k1) k2) ho
    | int k=>cases h
    | bool=>cases h
    | str=>cases h
    | nat=>cases h
    | tok=>cases h
    | any=>cases h
  | dc n i off ys =>
    cases c with
    | sl t =>
      obtain ⟨fr,u,xs,hl,h'⟩:∃ fr u xs,look n s.ents=some (.deep fr u xs)∧ST.cast .int t ys=some y:=by
        have h':(match look n s.ents with | some (.deep _ _ _)=>ST.cast .int t ys | _=>none)=some y:=h
        cases hl:look n s.ents with
        | none=>rw[hl] at h'; cases h'
        | some f =>
          cases f with
          | box l=>rw[hl] at h'; cases h'
          | arr _ _ _=>rw[hl] at h'; cases h'
          | pool _=>rw[hl] at h'; cases h'
          | deep fr u xs=>rw[hl] at h'; exact ⟨fr,u,xs,rfl,h'⟩
      obtain ⟨rfl,rfl⟩:=cast_eq h'
      obtain ⟨hoff,e,q1,q2,vs,k1,k2⟩:=hb fr u xs hl
      have hv:v∈vs.toList:=by
        have:=List.mem_of_getElem? (l:=vs.toList) (i:=1+i * u.size+off) (a:=v) (by simpa using k2)
        exact this
      cases fr with
      | true=>exact zmB (x:=cx C s β w) (zok (g.ents n _ _ hl k1) q1 hoff q2 k2) ho
      | false=>exact zvr (x:=cx C s β w) (znh (g.ents n _ _ hl k1) q1 hoff q2 k2) fun k hk=>hdeep n u xs _ rfl hl k1 k (List.mem_flatMap.2 ⟨v,hv,hk⟩)
    | int k=>cases h
    | bool=>cases h
    | str=>cases h
    | nat=>cases h
    | tok=>cases h
    | any=>cases h
  | d d =>
    have hd:d=c.cell y:=zfx (by cases c<;>exact h)
    subst hd
    exact zmB (x:=cx C s β w) hb ho
  | mt =>
    cases c with
    | sl t =>
      obtain ⟨ad,rfl⟩:=hb
      have h':some ([]:List t.El)=some y:=h
      cases h'
      exact ⟨[],.emp ad t 0,by intro b hb; cases hb⟩
    | int k=>cases h
    | bool=>cases h
    | str=>cases h
    | nat=>cases h
    | tok=>cases h
    | any=>cases h
  | own n =>
    cases c with
    | sl t =>
      obtain ⟨fr,hl⟩:=zxB (ys:=y) h
      exact arr n fr t y v rfl hl (hb fr t y hl)
    | int k=>cases h
    | bool=>cases h
    | str=>cases h
    | nat=>cases h
    | tok=>cases h
    | any=>cases h
  | win n lo len =>
    cases c with
    | sl t =>
      obtain ⟨fr,xs,hl,rfl⟩:=zEi (ys:=y) h
      obtain ⟨hfit,ad,m,cap,hβ,hlo,rfl⟩:=hb fr t xs hl
      have hr:=arr n fr t xs _ rfl hl hβ
      obtain ⟨ad',cap',e1,e2⟩:=zmA hr
      cases e1
      have:=rd_cut hr (lo:=lo) (hi:=lo+len) (by omega) hfit e2
      rw[Nat.add_sub_cancel_left] at this
      exact this
    | int k=>cases h
    | bool=>cases h
    | str=>cases h
    | nat=>cases h
    | tok=>cases h
    | any=>cases h
theorem zkT {es:List (Nat × Ent)} {c:CK} {cs:List CK} {a:A1} {l:List A1} {x:Tys (c :: cs)} (h:asTys es (c :: cs) (a :: l)=some x):a.as es c=some x.1∧asTys es cs l=some x.2:=by
  have h':(match a.as es c with
    | some x=>match asTys es cs l with
      | some y=>some ((x,y):Tys (c :: cs))
      | none=>none
    | none=>none)=some x:=h
  cases h1:a.as es c with
  | none=>rw[h1] at h'; cases h'
  | some x1 =>
    rw[h1] at h'
    cases h2:asTys es cs l with
    | none=>rw[h2] at h'; cases h'
    | some y1=>rw[h2] at h'; cases h'; exact ⟨rfl,rfl⟩
theorem zu4 {x:Cx} {l:List A1} {v:Value} (h:zcm x l [v]):∃ a,l=[a]∧A1Ok x a v∧v.oneCell'=true:=by
  match l,h with
  | [a],⟨h1,h2,_⟩=>exact ⟨a,rfl,h1,h2⟩
  | [],h=>exact h.elim
  | _ :: _ :: _,⟨_,_,h⟩=>exact h.elim
end
end Go.Di
open Go.RowKit (Below)
namespace Go.Di
theorem zmC {es:List (Nat × Ent)} (h:pooled es=true):∃ n,look PN es=some (.pool n):=by
  unfold pooled at h
  split at h
  · exact ⟨_,by assumption⟩
  · cases h
theorem zzY {x:Cx} {n:Nat} {v u:Value} {k:Tk} (hp:zh6 x n v) (hβ:x.β PN=some v) (h:x.rd u (.tok k)):OwnI x k.xs u∧∀ b∈zaN u,b∈zao v:=by
  obtain ⟨us,rfl,h2,_,h4⟩:=hp
  obtain ⟨fp,hr,_⟩:=h
  have tk:∀ i,zd5 x.β i=us[i]? := fun i=>by simp[zd5,hβ]
  cases hr with
  | tok a len cap _ h1 h3 =>
    rw[tk] at h1 h3
    have hlt:=(List.getElem?_eq_some_iff.1 h1).1
    obtain ⟨u,ys,k1,k2,k3⟩:=h4 k.id (by omega)
    rw[h1] at k1; cases k1
    rw[h3] at k2
    have:=zFN (Option.some.inj k2)
    subst this
    exact ⟨k3,fun b hb=>List.mem_flatMap.2 ⟨_,by simpa using List.mem_of_getElem? h1,hb⟩⟩
theorem zLT {α β:Type} (f:α→β) (xs:List α) (lo hi:Nat):cut (xs.map f) lo hi=(cut xs lo hi).map f:=by simp[cut,List.map_take,List.map_drop]
def erL (xs:List ST.trat.El):List ST.rat.El:=List.map TRt.er xs
theorem zfK (xs:List ST.trat.El):(erL xs).length=xs.length:=List.length_map (as:=xs) TRt.er
theorem zLS (xs:List ST.trat.El) (lo hi:Nat):cut (erL xs) lo hi=erL (cut xs lo hi):=zLT TRt.er xs lo hi
theorem zuw:∀ (xs:List ST.trat.El) {i:Nat} {c:Cell},(flat .rat (erL xs))[i]? = some c→∃ c0,(flat .trat xs)[i]? = some c0 ∧
    ((∃ b,c0 = .bool b∧c = .bool b)∨∃ k:Tk,c0 = .tok k∧c = .sl .int k.xs)
  | [],i,c,h=>by
    have h':([]:List Cell)[i]? = some c:=h
    simp at h'
  | x :: r,i,c,h=>by
    have h':(Cell.bool (TRt.neg x) :: .sl .int (TRt.mag x).xs :: .sl .int (TRt.den x).xs :: flat .rat (erL r))[i]? = some c:=h
    show ∃ c0,(Cell.bool (TRt.neg x) :: .tok (TRt.mag x) :: .tok (TRt.den x) :: flat .trat r)[i]? = some c0∧_
    rcases i with _ | _ | _ | i
    · simp at h'; subst h'; exact ⟨_,rfl,.inl ⟨_,rfl,rfl⟩⟩
    · simp at h'; subst h'; exact ⟨_,rfl,.inr ⟨_,rfl,rfl⟩⟩
    · simp at h'; subst h'; exact ⟨_,rfl,.inr ⟨_,rfl,rfl⟩⟩
    · simpa using zuw r (i:=i) (by simpa using h')
section
variable {C:Bs} {w:World} {s:St} {X:Nat→Prop} {β:Nat→Option Value} {tm:Array Value}
theorem zJ7 (g:Gam C s X β tm w) {b:A1} {c:CK} {y:c.ty} {v:Value} (hb:A1Ok (cx C s β w) b v) (h:b.via s.ents c=some y) (hpl:pooled s.ents=true) {old:Nat→Prop}
    (hown:∀ n t xs u,b.zhQ n→look n s.ents=some (.arr false t xs)→β n=some u→∀ k∈zao u,old k)
    (hpool:∀ n u,look PN s.ents=some (.pool n)→β PN=some u→∀ k∈zao u,old k) :
    (zjD w β old).rd v (c.cell y):=by
  obtain ⟨n0,hn0⟩:=zmC hpl
  obtain ⟨u0,hu0⟩:∃ u,β PN=some u:=by
    have:=g.bs PN _ hn0
    cases hb:β PN with
    | none=>rw[hb] at this; cases this
    | some u=>exact ⟨u,rfl⟩
  have hpo:zh6 (cx C s β w) n0 u0:=g.ents PN _ _ hn0 hu0
  have tok:∀ u k,(cx C s β w).rd u (.tok k)→(zjD w β old).rd u (.sl .int k.xs):=fun u k hr=>by
    obtain ⟨k1,k2⟩:=zzY (x:=cx C s β w) hpo hu0 hr
    exact zvr (x:=cx C s β w) k1 fun b hb=>hpool n0 u0 hn0 hu0 b (k2 b hb)
  have arr:∀ n (xs:List ST.trat.El) u,b.zhQ n→look n s.ents=some (.arr false .trat xs)→β n=some u→(zjD w β old).rd u (.sl .rat (erL xs)):=by
    intro n xs u hb hl hu
    rcases g.ents n _ _ hl hu with ⟨h0,ad,h1⟩ | ⟨gb,cap,cur,T,h1,h2,h3,h4,h5,h6,h7⟩
    · subst h0; subst h1; exact ⟨[],.emp ad .rat 0,by intro b hb; cases hb⟩
    · have hg:gb∈zao u:=by rw[h1]; cases cap with | zero=>omega | succ k=>simp[zao]
      have hold:=hown n .trat xs u hb hl hu gb hg
      subst h1
      have:=zit (x:=zjD w β old) (t := .rat) (xs:=erL xs) (by rw[zfK]; exact h3) h5 (by rintro ⟨n,e,u,h1,_⟩; cases h1) hold fun i c hi=>by
        obtain ⟨c0,k1,k2⟩:=zuw xs hi
        obtain ⟨u,hu,hr⟩:=h7 i c0 k1
        rcases k2 with ⟨b,rfl,rfl⟩ | ⟨k,rfl,rfl⟩
        · exact ⟨u,hu,zfv hr trivial⟩
        · exact ⟨u,hu,tok u k hr⟩
      rw[zfK] at this
      exact this
  unfold A1.via at h
  split at h
  · cases h; exact tok _ _ hb
  · split at h
    · rename_i hl; cases h
      exact arr _ _ v rfl hl (hb false .trat _ hl)
    · cases h
  · split at h
    · rename_i n lo len _ xs hl; cases h
      obtain ⟨hfit,ad,m,cap,hβ,hlo,rfl⟩:=hb false .trat xs hl
      have hr:=arr n xs _ rfl hl hβ
      obtain ⟨ad',cap',e1,e2⟩:=zmA hr
      rw[zfK] at e1 e2
      cases e1
      have:=rd_cut (xs:=erL xs) hr (lo:=lo) (hi:=lo+len) (by omega) hfit e2
      rw[Nat.add_sub_cancel_left,zLS] at this
      exact this
    · cases h
  · cases h
end
end Go.Di
open Go.RowKit (Below)
namespace Go.Di
def NoX:Nat→Prop:=fun _=>False
inductive W1 (fz:Bool) (s s':St) (src:Nat→Nat):A1→A1→Prop
  | bot (a:A1):W1 fz s s' src a .bot
  | data (a:A1) (c:CK) (y:c.ty) (h:a.as s.ents c=some y) (hm:∀ m,a.zhQ m→∀ n e,look n s'.ents=some e→e.mut=true→src n≠m)
      (hf:fz=true→∀ m,a.zhQ m→(∀ t xs,look m s.ents≠some (.arr false t xs))∧∀ t xs,look m s.ents≠some (.deep false t xs)):W1 fz s s' src a (.d (c.cell y))
  | via (a:A1) (c:CK) (y:c.ty) (h:a.via s.ents c=some y) (hp:pooled s.ents=true) (hm:∀ m,a.zhQ m∨m=PN→∀ n e,look n s'.ents=some e→e.mut=true→src n≠m) (hf:fz=false):W1 fz s s' src a (.d (c.cell y))
  | own (n:Nat) (h:(look (src n) s.ents).isSome):W1 fz s s' src (.own (src n)) (.own n)
  | lp (n off:Nat) (h:(look (src n) s.ents).isSome):W1 fz s s' src (.lp (src n) off) (.lp n off)
  | win (n lo k:Nat) (h:(look (src n) s.ents).isSome):W1 fz s s' src (.win (src n) lo k) (.win n lo k)
  | dp (n:Nat) (h:(look (src n) s.ents).isSome):W1 fz s s' src (.dp (src n)) (.dp n)
  | sp (cs:List Cell) (off:Nat):W1 fz s s' src (.sp cs off) (.sp cs off)
  | fn (f:Nat) (caps:List (List Cell)):W1 fz s s' src (.fn f caps) (.fn f caps)
def WL (fz:Bool) (s s':St) (src:Nat→Nat):List A1→List A1→Prop
  | [],[]=>True
  | a :: l,b :: m=>W1 fz s s' src a b∧WL fz s s' src l m
  | _,_=>False
def WAV (fz:Bool) (s s':St) (src:Nat→Nat) (a b:AV):Prop :=
  b = .bot∨∃ g l m,a = .v g l∧b = .v g m∧WL fz s s' src l m
structure Wk (fz:Bool) (s s':St) (src:Nat→Nat):Prop where
  len:s'.env.length=s.env.length
  env:∀ (t:Nat) b,s'.env[t]? = some b→∃ a,s.env[t]? = some a∧WAV fz s s' src a b
  ents:∀ n e',look n s'.ents=some e'→∃ e,look (src n) s.ents=some e ∧
    ((∃ l l',e = .box l∧e' = .box l'∧WL fz s s' src l l')∨(∃ fr t xs,e = .arr fr t xs∧e' = .arr fr t xs)∨(∃ t xs,e = .deep false t xs∧e' = .deep false t xs)∨∃ k,e = .pool k∧e' = .pool k)
  inj:∀ n m e f,look n s'.ents=some e→look m s'.ents=some f→e.mut=true→f.mut=true→src n=src m→n=m
  pn:src PN=PN
section
variable {P:Program} {C:Bs} {w w':World} {s s':St} {X:Nat→Prop} {bt:Nat→Option Value} {tm:Array Value} {src:Nat→Nat} {fz:Bool} {Q:Nat→Prop}
theorem Wk.mut (h:Wk fz s s' src) {n:Nat} {e':Ent} (hl:look n s'.ents=some e') (hm:e'.mut=true):∃ e,look (src n) s.ents=some e∧e.mut=true:=by
  obtain ⟨e,h1,h2⟩:=h.ents n e' hl
  refine ⟨e,h1,?_⟩
  rcases h2 with ⟨l,l',rfl,rfl,_⟩ | ⟨fr,t,xs,rfl,rfl⟩ | ⟨t,xs,rfl,rfl⟩ | ⟨k,rfl,rfl⟩
  · rfl
  · exact hm
  · rfl
  · rfl
theorem Wk.top (h:Wk fz s s' src) {b:Nat} (ht:Top (fun n=>look n s'.ents) (fun n=>bt (src n)) b):Top (fun n=>look n s.ents) bt b:=by
  obtain ⟨n,e',v,h1,h2,h3,h4⟩:=ht
  obtain ⟨e,k1,k2⟩:=h.mut h1 h2
  exact ⟨src n,e,v,k1,k2,h3,h4⟩
def zJ5 (s':St) (src:Nat→Nat) (bt:Nat→Option Value) (w:World) (Q:Nat→Prop):Cx:=⟨w,fun n=>look n s'.ents,fun n=>bt (src n),Q⟩
structure QOk (fz:Bool) (C:Bs) (s:St) (bt:Nat→Option Value) (w:World) (Q:Nat→Prop):Prop where
  rest:∀ b,b < w.heap.size→¬ Top (fun n=>look n s.ents) bt b→(¬ C.keep b∨C.old b)→Q b
  top:fz=false→∀ b,Top (fun n=>look n s.ents) bt b→Q b
theorem Wk.tk (h:Wk fz s s' src):zd5 (fun n=>bt (src n))=zd5 bt:=by funext i; simp only[zd5,h.pn]
theorem Wk.rd (h:Wk fz s s' src) (hq:QOk fz C s bt w Q) {v:Value} {c:Cell} (hr:(cx C s bt w).rd v c):(zJ5 s' src bt w Q).rd v c:=by
  obtain ⟨fp,h1,h2⟩:=hr
  exact ⟨fp,h1.more fun i v hv=>(congrFun h.tk i).trans hv,fun b hb=>⟨(h2 b hb).1,fun ht=>(h2 b hb).2.1 (h.top ht),hq.rest b (h2 b hb).1 (h2 b hb).2.1 (h2 b hb).2.2⟩⟩
theorem Wk.za8 (h:Wk fz s s' src) (hq:QOk fz C s bt w Q) {b off:Nat} {cs:List Cell} (hr:(cx C s bt w).za8 b off cs):(zJ5 s' src bt w Q).za8 b off cs:=by
  refine ⟨hr.1.imp id fun hf k hk=>⟨(hf k hk).1,fun ht=>(hf k hk).2.1 (h.top ht),hq.rest k (hf k hk).1 (hf k hk).2.1 (hf k hk).2.2⟩,fun i c hc=>?_⟩
  obtain ⟨v,hv,hd⟩:=hr.2 i c hc
  exact ⟨v,hv,h.rd hq hd⟩
theorem Wk.cell (h:Wk fz s s' src) (g:Gam C s X bt tm w) (hq:QOk fz C s bt w Q) {a b:A1} (hw:W1 fz s s' src a b) {v:Value} (ha:A1Ok (cx C s bt w) a v):A1Ok (zJ5 s' src bt w Q) b v:=by
  cases hw with
  | bot=>trivial
  | data _ c y hy hm hf =>
    have hd:=as_arg g ha hy (old:=fun b=>b < w.heap.size∧¬ Top (fun n=>look n s'.ents) (fun n=>bt (src n)) b∧Q b)
      (fun b h1 h2 h3=>⟨h1,fun ht=>h2 (h.top ht),hq.rest b h1 h2 h3⟩)
      (fun n fr t xs u hn hl hu hfr k hk=>by
        subst hfr
        have hT:Top (fun n=>look n s.ents) bt k:=⟨n,_,u,hl,rfl,hu,hk⟩
        have hfz:fz=false:=by
          cases fz with
          | false=>rfl
          | true=>exact absurd hl ((hf rfl n hn).1 t xs)
        refine ⟨(g.fresh k hT).2,?_,hq.top hfz k hT⟩
        rintro ⟨m,e',u',k1,k2,k3,k4⟩
        obtain ⟨e,k5,k6⟩:=h.mut k1 k2
        exact hm n hn m e' k1 k2 (g.uniq (src m) n e (.arr false t xs) u' u k k5 hl k6 rfl k3 hu k4 hk))
      (fun n t xs u hn hl hu k hk=>by
        have hT:Top (fun n=>look n s.ents) bt k:=⟨n,_,u,hl,rfl,hu,hk⟩
        have hfz:fz=false:=by
          cases fz with
          | false=>rfl
          | true=>exact absurd hl ((hf rfl n hn).2 t xs)
        refine ⟨(g.fresh k hT).2,?_,hq.top hfz k hT⟩
        rintro ⟨m,e',u',k1,k2,k3,k4⟩
        obtain ⟨e,k5,k6⟩:=h.mut k1 k2
        exact hm n hn m e' k1 k2 (g.uniq (src m) n e (.deep false t xs) u' u k k5 hl k6 rfl k3 hu k4 hk))
    obtain ⟨fp,h1,h2⟩:=hd
    exact ⟨fp,h1.more fun i v hv=>(congrFun h.tk i).trans hv,fun b hb=>⟨(h2 b hb).1,(h2 b hb).2.2.2.1,(h2 b hb).2.2.2.2⟩⟩
  | via _ c y hy hp hm hf =>
    have hd:=zJ7 g ha hy hp (old:=fun b=>b < w.heap.size∧¬ Top (fun n=>look n s'.ents) (fun n=>bt (src n)) b∧Q b)
      (fun n t xs u hn hl hu k hk=>by
        have hT:Top (fun n=>look n s.ents) bt k:=⟨n,_,u,hl,rfl,hu,hk⟩
        refine ⟨(g.fresh k hT).2,?_,hq.top hf k hT⟩
        rintro ⟨m,e',u',k1,k2,k3,k4⟩
        obtain ⟨e,k5,k6⟩:=h.mut k1 k2
        exact hm n (.inl hn) m e' k1 k2 (g.uniq (src m) n e (.arr false t xs) u' u k k5 hl k6 rfl k3 hu k4 hk))
      (fun n u hl hu k hk=>by
        have hT:Top (fun n=>look n s.ents) bt k:=⟨PN,_,u,hl,rfl,hu,hk⟩
        refine ⟨(g.fresh k hT).2,?_,hq.top hf k hT⟩
        rintro ⟨m,e',u',k1,k2,k3,k4⟩
        obtain ⟨e,k5,k6⟩:=h.mut k1 k2
        exact hm PN (.inr rfl) m e' k1 k2 (g.uniq (src m) PN e (.pool n) u' u k k5 hl k6 rfl k3 hu k4 hk))
    obtain ⟨fp,h1,h2⟩:=hd
    exact ⟨fp,h1.more fun i v hv=>(congrFun h.tk i).trans hv,fun b hb=>⟨(h2 b hb).1,(h2 b hb).2.2.2.1,(h2 b hb).2.2.2.2⟩⟩
  | own n hn =>
    intro fr t xs hl
    obtain ⟨e,h1,h2⟩:=h.ents n _ hl
    rcases h2 with ⟨l,l',rfl,h2,_⟩ | ⟨fr',t',xs',rfl,h2⟩ | ⟨t',xs',rfl,h2⟩ | ⟨k,rfl,h2⟩
    · cases h2
    · cases h2; exact ha fr t xs h1
    · cases h2
    · cases h2
  | dp n hn=>exact fun _=>ha hn
  | sp cs off =>
    obtain ⟨b,o,h1,h2⟩:=ha
    exact ⟨b,o,h1,h.za8 hq h2⟩
  | fn f caps =>
    obtain ⟨vs,h1,h2,h3⟩:=ha
    refine ⟨vs,h1,h2,fun i cs hc=>?_⟩
    obtain ⟨b,o,h4,h5⟩:=h3 i cs hc
    exact ⟨b,o,h4,h.za8 hq h5⟩
  | lp n off hn=>exact fun _=>ha hn
  | win n lo k hn =>
    intro fr t xs hl
    obtain ⟨e,h1,h2⟩:=h.ents n _ hl
    rcases h2 with ⟨l,l',rfl,h2,_⟩ | ⟨fr',t',xs',rfl,h2⟩ | ⟨t',xs',rfl,h2⟩ | ⟨k,rfl,h2⟩
    · cases h2
    · cases h2; exact ha fr t xs h1
    · cases h2
    · cases h2
theorem Wk.cells (h:Wk fz s s' src) (g:Gam C s X bt tm w) (hq:QOk fz C s bt w Q):∀ {l m:List A1} {vs:List Value},WL fz s s' src l m→zcm (cx C s bt w) l vs→zcm (zJ5 s' src bt w Q) m vs
  | [],[],[],_,_=>trivial
  | _a :: _l,_b :: _m,_v :: _vs,⟨h1,h2⟩,⟨k1,k2,k3⟩=>⟨h.cell g hq h1 k1,k2,h.cells g hq h2 k3⟩
  | [],_ :: _,_,h,_=>h.elim
  | _ :: _,[],_,h,_=>h.elim
  | [],[],_ :: _,_,h=>h.elim
  | _ :: _,_ :: _,[],_,h=>h.elim
theorem Wk.av (h:Wk fz s s' src) (g:Gam C s X bt tm w) (hq:QOk fz C s bt w Q) {a b:AV} (hw:WAV fz s s' src a b) {v:Value} (ha:zaS (cx C s bt w) a v):zaS (zJ5 s' src bt w Q) b v:=by
  rcases hw with rfl | ⟨gg,l,m,rfl,rfl,hl⟩
  · exact zkB
  · cases gg with
    | true=>obtain ⟨vs,h1,h2⟩:=ha; exact ⟨vs,h1,h.cells g hq hl h2⟩
    | false =>
      obtain ⟨a,h1,h2,h3⟩:=ha
      subst h1
      match m,hl with
      | [b],⟨hb,_⟩ =>
        refine ⟨b,rfl,h.cell g hq hb h2,?_⟩
        rcases h3 with rfl | h3
        · cases hb with
          | bot=>exact .inl rfl
          | data _ c y hy hm _=>cases c<;>cases hy
          | via _ c y hy _ _ _=>cases c<;>first | cases hy; done | (rename_i t; cases t<;>cases hy)
        · exact .inr h3
      | _ :: _ :: _,⟨_,hb⟩=>exact hb.elim
theorem Wk.zNO (h:Wk fz s s' src) (g:Gam C s X bt tm w) (hq:QOk fz C s bt w Q) {n:Nat} {e':Ent} {v:Value} (hl:look n s'.ents=some e') (hv:bt (src n)=some v):EntOk (zJ5 s' src bt w Q) e' v:=by
  obtain ⟨e,h1,h2⟩:=h.ents n e' hl
  have he:=g.ents (src n) e v h1 hv
  rcases h2 with ⟨l,l',rfl,rfl,hw⟩ | ⟨fr,t,xs,rfl,rfl⟩ | ⟨t,xs,rfl,rfl⟩ | ⟨k,rfl,rfl⟩
  rotate_left 2
  · exact DeepOk.go he fun _ _=>rfl
  · exact zh6.go he fun _ _=>rfl
  · obtain ⟨b,vs,T,k1,k2,k3⟩:=he
    exact ⟨b,vs,T,k1,k2,h.cells g hq hw k3⟩
  · cases fr with
    | true=>exact h.rd hq he
    | false =>
      rcases he with h0 | ⟨gb,cap,cur,T,k1,k2,k3,k4,k5,k6,k7⟩
      · exact .inl h0
      · exact .inr ⟨gb,cap,cur,T,k1,k2,k3,k4,k5,k6,fun i c hc=>by obtain ⟨u,q1,q2⟩:=k7 i c hc; exact ⟨u,q1,h.rd hq q2⟩⟩
theorem Wk.uniq (h:Wk fz s s' src) (g:Gam C s X bt tm w):∀ n m e f u v b,look n s'.ents=some e→look m s'.ents=some f→e.mut=true→f.mut=true→bt (src n)=some u→bt (src m)=some v→b∈zao u→b∈zao v→n=m:=by
  intro n m e f u v b h1 h2 h3 h4 h5 h6 h7 h8
  obtain ⟨e1,q1,q2⟩:=h.mut h1 h3
  obtain ⟨e2,q3,q4⟩:=h.mut h2 h4
  exact h.inj n m e f h1 h2 h3 h4 (g.uniq (src n) (src m) e1 e2 u v b q1 q3 q2 q4 h5 h6 h7 h8)
theorem Gam.wk (g:Gam C s NoX bt tm w) (h:Wk fz s s' src) (hp:∀ n e,look n s'.ents=some e→n % 64=63→src n=n):Gam C s' NoX (fun n=>bt (src n)) tm w:=by
  have hq:QOk fz C s bt w (fun b=>¬ C.keep b∨C.old b):=⟨fun _ _ _ h=>h,fun _ b hb => .inl (g.fresh b hb).1⟩
  refine ⟨h.len.trans g.len,fun t b hx hb=>?_,fun n e' v hl hv=>h.zNO g hq hl hv,h.uniq g,fun b hb=>g.fresh b (h.top hb),g.kb,g.below,fun n v hc hl=>?_,g.np,fun n e he=>?_,g.fx,fun π hπ=>⟨h.tk.trans (g.tk π hπ).1,?_⟩⟩
  · obtain ⟨a,h1,h2⟩:=h.env t b hb
    exact h.av g hq h2 (g.env t a hx h1)
  · cases he:look n s'.ents with
    | none=>rw[he] at hl; cases hl
    | some e =>
      have hs:=hp n e he (g.np n (by rw[hc]; rfl)).1
      show bt (src n)=some v
      rw[hs]
      obtain ⟨e0,h1,_⟩:=h.ents n e he
      rw[hs] at h1
      exact g.pin n v hc (by rw[h1]; rfl)
  · obtain ⟨e0,h1,_⟩:=h.ents n e he
    exact g.bs (src n) e0 h1
  · cases he:look PN s'.ents with
    | none=>rfl
    | some e =>
      obtain ⟨e0,h1,_⟩:=h.ents PN e he
      rw[h.pn,(g.tk π hπ).2] at h1; cases h1
end
end Go.Di
open Go.RowKit (Below)
namespace Go.Di
theorem zgv:∀ (cs ds:List CK) (x:Tys cs) (y:Tys ds),Tys.fst cs ds (Tys.app cs ds x y)=x
  | [],_,_,_=>rfl
  | _ :: cs,ds,x,y=>congrArg (Prod.mk x.1) (zgv cs ds x.2 y)
theorem zgu:∀ (cs ds:List CK) (x:Tys cs) (y:Tys ds),Tys.snd cs ds (Tys.app cs ds x y)=y
  | [],_,_,_=>rfl
  | _ :: cs,ds,x,y=>zgu cs ds x.2 y
theorem zaA {n:Nat}:∀ {l:List Nat},zgx n l=true↔n∈l
  | []=>by simp[zgx]
  | m :: r=>by
    unfold zgx
    split
    · rename_i h; simp at h; subst h; simp
    · rename_i h
      have:n≠m:=by intro e; subst e; simp at h
      rw[zaA]; simp[this]
theorem ze9:∀ {l:List Nat},zdX l=true→l.Nodup
  | [],_=>List.nodup_nil
  | m :: r,h=>by
    unfold zdX at h
    split at h
    · cases h
    · rename_i hm
      exact List.nodup_cons.2 ⟨(fun hh=>by rw[zaA.2 hh] at hm; cases hm),ze9 h⟩
theorem zut:∀ {ks:List CK} {cs:List Cell} {x:Tys ks},getC ks cs=some x→Tys.cells ks x=cs
  | [],[],_,_=>rfl
  | k :: ks,c :: cs,x,h=>by
    unfold getC at h
    split at h
    · rename_i y hy
      split at h
      · rename_i z hz
        cases h
        simp only[Tys.cells]
        rw[← zfx hy,zut hz]
      · cases h
    · cases h
  | [],_ :: _,_,h=>by cases h
  | _ :: _,[],_,h=>by cases h
theorem zC5:∀ {kss:List (List CK)} {cs:List (List Cell)} {x:Tys (flatK kss)},getK kss cs=some x→zNP kss x=cs
  | [],[],_,_=>rfl
  | k :: kss,c :: cs,x,h=>by
    unfold getK at h
    split at h
    · rename_i y hy
      split at h
      · rename_i z hz
        cases h
        simp only[zNP,zgv,zgu]
        rw[zut hy,zC5 hz]
      · cases h
    · cases h
  | [],_ :: _,_,h=>by cases h
  | _ :: _,[],_,h=>by cases h
section
variable {s s':St} {src:List (Nat × Nat)} {muts:List Nat} {fz:Bool}
def znC (fz:Bool) (s:St) (l:List A1):Prop:=fz=true→∀ a∈l,∀ m,a.zhQ m→(∀ t xs,look m s.ents≠some (.arr false t xs))∧∀ t xs,look m s.ents≠some (.deep false t xs)
theorem znC.left {l m:List A1} (h:znC fz s (l++m)):znC fz s l:=fun e a ha=>h e a (List.mem_append_left _ ha)
theorem znC.right {l m:List A1} (h:znC fz s (l++m)):znC fz s m:=fun e a ha=>h e a (List.mem_append_right _ ha)
theorem znC.tail {a:A1} {m:List A1} (h:znC fz s (a :: m)):znC fz s m:=fun e b hb=>h e b (List.mem_cons_of_mem _ hb)
theorem readD_ok {es:List (Nat × Ent)} {c:CK} {a:A1} {z:c.ty} (h:readD es muts c a=some z):okA muts a=true∧(a.as es c=some z∨(a.via es c=some z∧pooled es=true∧PN ∉ muts)):=by
  unfold readD at h
  split at h
  · rename_i ho
    refine ⟨ho,?_⟩
    split at h
    · rename_i x hx; cases h; exact .inl hx
    · split at h
      · rename_i hp
        split at h
        · cases h
        · rename_i hm
          exact .inr ⟨h,hp,fun hh=>by rw[zaA.2 hh] at hm; cases hm⟩
      · cases h
  · cases h
theorem readL_ok (hx:fz=true→PN∈muts) (hm:∀ n e,look n s'.ents=some e→e.mut=true→zaC src n∈muts):∀ {l:List C1T} {m:List A1} {x:Tys (ksL l)},znC fz s (zlZ l m)→readL s.ents src muts l m=some x→WL fz s s' (zaC src) m (encL l x)
  | [],[],x,_,_=>trivial
  | .bot :: r,a :: l,x,hz,h=>⟨.bot a,readL_ok hx hm (l:=r) hz h⟩
  | .d c :: r,a :: l,x,hz,h=>by
    have h':(match readD s.ents muts c a with
      | some x=>match readL s.ents src muts r l with
        | some y=>some ((x,y):Tys (ksL (.d c :: r)))
        | none=>none
      | none=>none)=some x:=h
    split at h'
    · rename_i z hD
      obtain ⟨ho,hzz⟩:=readD_ok hD
      have harr:∀ m,a.zhQ m→∀ n e,look n s'.ents=some e→e.mut=true→zaC src n≠m:=fun m hma n e hl hmu heq=>by
        have:=hm n e hl hmu
        rw[heq] at this
        have hmem:=zaA.2 this
        cases a with
        | own k=>simp only[A1.zhQ] at hma; subst hma; simp only[okA,hmem] at ho; cases ho
        | win k _ _=>simp only[A1.zhQ] at hma; subst hma; simp only[okA,hmem] at ho; cases ho
        | dp k=>simp only[A1.zhQ] at hma; subst hma; simp only[okA,hmem] at ho; cases ho
        | dc k _ _ _=>simp only[A1.zhQ] at hma; subst hma; simp only[okA,hmem] at ho; cases ho
        | _=>exact hma.elim
      split at h'
      · rename_i y hy
        cases h'
        rcases hzz with hzz | ⟨hzz,hp,hnp⟩
        · exact ⟨.data a c z hzz harr (fun e m ha=>hz e a (List.mem_cons_self ..) m ha),readL_ok hx hm (l:=r) (znC.tail (a:=a) hz) hy⟩
        · refine ⟨.via a c z hzz hp (fun m hma n e hl hmu heq=>?_) ?_,readL_ok hx hm (l:=r) (znC.tail (a:=a) hz) hy⟩
          · rcases hma with hma | rfl
            · exact harr m hma n e hl hmu heq
            · exact hnp (heq▸hm n e hl hmu)
          · cases fz with
            | false=>rfl
            | true=>exact absurd (hx rfl) hnp
      · cases h'
    · cases h'
  | .own n :: r,.own m :: l,x,hz,h=>by
    have h':(match Nat.beq (zaC src n) m,look m s.ents with
      | true,some _=>readL s.ents src muts r l
      | _,_=>none)=some x:=h
    cases hb:Nat.beq (zaC src n) m with
    | false=>rw[hb] at h'; cases h'
    | true =>
      rw[hb] at h'
      cases hl:look m s.ents with
      | none=>rw[hl] at h'; cases h'
      | some e =>
        rw[hl] at h'
        have hb:=Nat.eq_of_beq_eq_true hb
        subst hb
        exact ⟨.own n (by rw[hl]; rfl),readL_ok hx hm (l:=r) hz h'⟩
  | .lp n off :: r,.lp m o :: l,x,hz,h=>by
    have h':(match Nat.beq (zaC src n) m,Nat.beq off o,look m s.ents with
      | true,true,some _=>readL s.ents src muts r l
      | _,_,_=>none)=some x:=h
    cases h1:Nat.beq (zaC src n) m with
    | false=>rw[h1] at h'; cases h'
    | true =>
    cases h2:Nat.beq off o with
    | false=>rw[h1,h2] at h'; cases h'
    | true =>
    cases hl:look m s.ents with
    | none=>rw[h1,h2,hl] at h'; cases h'
    | some e =>
    rw[h1,h2,hl] at h'
    have h1:=Nat.eq_of_beq_eq_true h1
    have h2:=Nat.eq_of_beq_eq_true h2
    subst h1; subst h2
    exact ⟨.lp n off (by rw[hl]; rfl),readL_ok hx hm (l:=r) hz h'⟩
  | .win n :: r,.win m lo k :: l,x,hz,h=>by
    have h':(match Nat.beq (zaC src n) m,look m s.ents with
      | true,some _=>match readL s.ents src muts r l with
        | some y=>some ((lo,k,y):Tys (ksL (.win n :: r)))
        | none=>none
      | _,_=>none)=some x:=h
    cases hb:Nat.beq (zaC src n) m with
    | false=>rw[hb] at h'; cases h'
    | true =>
      rw[hb] at h'
      cases hl:look m s.ents with
      | none=>rw[hl] at h'; cases h'
      | some e =>
        rw[hl] at h'
        simp only at h'
        split at h'
        · rename_i y hy
          cases h'
          have hb:=Nat.eq_of_beq_eq_true hb
          subst hb
          exact ⟨.win n lo k (by rw[hl]; rfl),readL_ok hx hm (l:=r) hz hy⟩
        · cases h'
  | .dp n :: r,.dp m :: l,x,hz,h=>by
    have h':(match Nat.beq (zaC src n) m,look m s.ents with
      | true,some _=>readL s.ents src muts r l
      | _,_=>none)=some x:=h
    cases hb:Nat.beq (zaC src n) m with
    | false=>rw[hb] at h'; cases h'
    | true =>
      rw[hb] at h'
      cases hl:look m s.ents with
      | none=>rw[hl] at h'; cases h'
      | some e =>
        rw[hl] at h'
        have hb:=Nat.eq_of_beq_eq_true hb
        subst hb
        exact ⟨.dp n (by rw[hl]; rfl),readL_ok hx hm (l:=r) hz h'⟩
  | .sp ks :: r,.sp cs 0 :: l,x,hz,h=>by
    have h' : (match getC ks cs with
      | some x=>match readL s.ents src muts r l with
        | some y=>some (Tys.app ks (ksL r) x y:Tys (ksL (.sp ks :: r)))
        | none=>none
      | none => none)=some x:=by
        rw[← h]
        show _=(match 0,getC ks cs with
          | 0,some x=>match readL s.ents src muts r l with
            | some y=>some (Tys.app ks (ksL r) x y:Tys (ksL (.sp ks :: r)))
            | none=>none
          | _,_=>none)
        cases getC ks cs<;>rfl
    split at h'
    · rename_i y hy
      split at h'
      · rename_i z hzz
        cases h'
        refine ⟨?_,?_⟩
        · simp only[zgv,zut hy]; exact .sp cs 0
        · simp only[zgu]; exact readL_ok hx hm (l:=r) hz hzz
      · cases h'
    · cases h'
  | .sp _ :: _,.sp _ (_+1) :: _,_,_,h=>by cases h
  | .fn f kss :: r,.fn g caps :: l,x,hz,h=>by
    have h':(match Nat.beq f g,getK kss caps with
      | true,some x=>match readL s.ents src muts r l with
        | some y=>some (Tys.app (flatK kss) (ksL r) x y:Tys (ksL (.fn f kss :: r)))
        | none=>none
      | _,_=>none)=some x:=h
    split at h'
    · rename_i y hb hy
      have hb:=Nat.eq_of_beq_eq_true hb
      subst hb
      split at h'
      · rename_i z hzz
        cases h'
        refine ⟨?_,?_⟩
        · simp only[zgv,zC5 hy]; exact .fn f caps
        · simp only[zgu]; exact readL_ok hx hm (l:=r) hz hzz
      · cases h'
    · cases h'
  | .dp _ :: _,[],_,_,h=>by cases h
  | .dp _ :: _,.bot :: _,_,_,h | .dp _ :: _,.d _ :: _,_,_,h | .dp _ :: _,.mt :: _,_,_,h | .dp _ :: _,.lp _ _ :: _,_,_,h | .dp _ :: _,.own _ :: _,_,_,h | .dp _ :: _,.win _ _ _ :: _,_,_,h | .dp _ :: _,.sp _ _ :: _,_,_,h | .dp _ :: _,.oe _ _ _ :: _,_,_,h | .dp _ :: _,.de _ _ _ :: _,_,_,h | .dp _ :: _,.dc _ _ _ _ :: _,_,_,h=>by cases h
  | .own _ :: _,.dp _ :: _,_,_,h | .own _ :: _,.de _ _ _ :: _,_,_,h | .own _ :: _,.dc _ _ _ _ :: _,_,_,h=>by cases h
  | .lp _ _ :: _,.dp _ :: _,_,_,h | .lp _ _ :: _,.de _ _ _ :: _,_,_,h | .lp _ _ :: _,.dc _ _ _ _ :: _,_,_,h=>by cases h
  | .win _ :: _,.dp _ :: _,_,_,h | .win _ :: _,.de _ _ _ :: _,_,_,h | .win _ :: _,.dc _ _ _ _ :: _,_,_,h=>by cases h
  | [],_ :: _,_,_,h=>by cases h
  | .bot :: _,[],_,_,h=>by cases h
  | .d _ :: _,[],_,_,h=>by cases h
  | .own _ :: _,[],_,_,h=>by cases h
  | .lp _ _ :: _,[],_,_,h=>by cases h
  | .win _ :: _,[],_,_,h=>by cases h
  | .own _ :: _,.bot :: _,_,_,h | .own _ :: _,.d _ :: _,_,_,h | .own _ :: _,.mt :: _,_,_,h | .own _ :: _,.lp _ _ :: _,_,_,h | .own _ :: _,.win _ _ _ :: _,_,_,h | .own _ :: _,.sp _ _ :: _,_,_,h | .own _ :: _,.oe _ _ _ :: _,_,_,h=>by cases h
  | .lp _ _ :: _,.bot :: _,_,_,h | .lp _ _ :: _,.d _ :: _,_,_,h | .lp _ _ :: _,.mt :: _,_,_,h | .lp _ _ :: _,.own _ :: _,_,_,h | .lp _ _ :: _,.win _ _ _ :: _,_,_,h | .lp _ _ :: _,.sp _ _ :: _,_,_,h | .lp _ _ :: _,.oe _ _ _ :: _,_,_,h=>by cases h
  | .win _ :: _,.bot :: _,_,_,h | .win _ :: _,.d _ :: _,_,_,h | .win _ :: _,.mt :: _,_,_,h | .win _ :: _,.own _ :: _,_,_,h | .win _ :: _,.lp _ _ :: _,_,_,h | .win _ :: _,.sp _ _ :: _,_,_,h | .win _ :: _,.oe _ _ _ :: _,_,_,h=>by cases h
  | .sp _ :: _,[],_,_,h | .fn _ _ :: _,[],_,_,h=>by cases h
  | .sp _ :: _,.bot :: _,_,_,h | .sp _ :: _,.d _ :: _,_,_,h | .sp _ :: _,.mt :: _,_,_,h | .sp _ :: _,.lp _ _ :: _,_,_,h | .sp _ :: _,.own _ :: _,_,_,h | .sp _ :: _,.win _ _ _ :: _,_,_,h | .sp _ :: _,.oe _ _ _ :: _,_,_,h | .sp _ :: _,.dp _ :: _,_,_,h | .sp _ :: _,.de _ _ _ :: _,_,_,h | .sp _ :: _,.dc _ _ _ _ :: _,_,_,h | .sp _ :: _,.fn _ _ :: _,_,_,h=>by cases h
  | .fn _ _ :: _,.bot :: _,_,_,h | .fn _ _ :: _,.d _ :: _,_,_,h | .fn _ _ :: _,.mt :: _,_,_,h | .fn _ _ :: _,.lp _ _ :: _,_,_,h | .fn _ _ :: _,.own _ :: _,_,_,h | .fn _ _ :: _,.win _ _ _ :: _,_,_,h | .fn _ _ :: _,.oe _ _ _ :: _,_,_,h | .fn _ _ :: _,.dp _ :: _,_,_,h | .fn _ _ :: _,.de _ _ _ :: _,_,_,h | .fn _ _ :: _,.dc _ _ _ _ :: _,_,_,h | .fn _ _ :: _,.sp _ _ :: _,_,_,h=>by cases h
  | .own _ :: _,.fn _ _ :: _,_,_,h | .lp _ _ :: _,.fn _ _ :: _,_,_,h | .win _ :: _,.fn _ _ :: _,_,_,h | .dp _ :: _,.fn _ _ :: _,_,_,h=>by cases h
end
end Go.Di
open Go.RowKit (Below)
namespace Go.Di
section
variable {s s':St} {src:List (Nat × Nat)} {muts:List Nat} {fz:Bool}
theorem zdJ:∀ {l:List (Nat × ET)} {x:Tys (ksE l)} {n:Nat} {e:Ent},look n (zgy l x)=some e→e.mut=true→zaC src n∈zjF src l
  | (k,.box l) :: r,x,n,e,h,hm=>by
    simp only[zgy,zaq] at h
    split at h
    · rename_i hk; subst hk; exact List.mem_cons_self ..
    · exact List.mem_cons_of_mem _ (zdJ (l:=r) h hm)
  | (k,.arr fr t) :: r,x,n,e,h,hm=>by
    simp only[zgy,zaq] at h
    split at h
    · rename_i hk; subst hk; cases h
      cases fr with
      | true=>cases hm
      | false=>exact List.mem_cons_self ..
    · have:=zdJ (l:=r) h hm
      cases fr with
      | true=>exact this
      | false=>exact List.mem_cons_of_mem _ this
  | (k,.deep t) :: r,x,n,e,h,hm=>by
    simp only[zgy,zaq] at h
    split at h
    · rename_i hk; subst hk; exact List.mem_cons_self ..
    · exact List.mem_cons_of_mem _ (zdJ (l:=r) h hm)
  | (k,.pool) :: r,x,n,e,h,hm=>by
    simp only[zgy,zaq] at h
    split at h
    · rename_i hk; subst hk; exact List.mem_cons_self ..
    · exact List.mem_cons_of_mem _ (zdJ (l:=r) h hm)
theorem ziy:∀ {l:List (Nat × ET)} {x:Tys (ksE l)} {n m:Nat} {e f:Ent},(zjF src l).Nodup→look n (zgy l x)=some e→look m (zgy l x)=some f→e.mut=true→f.mut=true→zaC src n=zaC src m→n=m
  | (k,.box l) :: r,x,n,m,e,f,hn,h1,h2,h3,h4,h5=>by
    simp only[zgy,zaq] at h1 h2
    have hn':=List.nodup_cons.1 hn
    split at h1<;>split at h2
    · rename_i a b; rw[a,b]
    · rename_i a b; subst a; exact absurd (h5▸zdJ (l:=r) h2 h4) hn'.1
    · rename_i a b; subst b; exact absurd (h5▸zdJ (l:=r) h1 h3) hn'.1
    · exact ziy (l:=r) hn'.2 h1 h2 h3 h4 h5
  | (k,.deep t) :: r,x,n,m,e,f,hn,h1,h2,h3,h4,h5=>by
    simp only[zgy,zaq] at h1 h2
    have hn':=List.nodup_cons.1 hn
    split at h1<;>split at h2
    · rename_i a b; rw[a,b]
    · rename_i a b; subst a; exact absurd (h5▸zdJ (l:=r) h2 h4) hn'.1
    · rename_i a b; subst b; exact absurd (h5▸zdJ (l:=r) h1 h3) hn'.1
    · exact ziy (l:=r) hn'.2 h1 h2 h3 h4 h5
  | (k,.pool) :: r,x,n,m,e,f,hn,h1,h2,h3,h4,h5=>by
    simp only[zgy,zaq] at h1 h2
    have hn':=List.nodup_cons.1 hn
    split at h1<;>split at h2
    · rename_i a b; rw[a,b]
    · rename_i a b; subst a; exact absurd (h5▸zdJ (l:=r) h2 h4) hn'.1
    · rename_i a b; subst b; exact absurd (h5▸zdJ (l:=r) h1 h3) hn'.1
    · exact ziy (l:=r) hn'.2 h1 h2 h3 h4 h5
  | (k,.arr true t) :: r,x,n,m,e,f,hn,h1,h2,h3,h4,h5=>by
    simp only[zgy,zaq] at h1 h2
    split at h1
    · cases h1; cases h3
    · split at h2
      · cases h2; cases h4
      · exact ziy (l:=r) hn h1 h2 h3 h4 h5
  | (k,.arr false t) :: r,x,n,m,e,f,hn,h1,h2,h3,h4,h5=>by
    simp only[zgy,zaq] at h1 h2
    have hn':=List.nodup_cons.1 hn
    split at h1<;>split at h2
    · rename_i a b; rw[a,b]
    · rename_i a b; subst a; exact absurd (h5▸zdJ (l:=r) h2 h4) hn'.1
    · rename_i a b; subst b; exact absurd (h5▸zdJ (l:=r) h1 h3) hn'.1
    · exact ziy (l:=r) hn'.2 h1 h2 h3 h4 h5
def znJ:List (Option (Bool × List C1T))→List AV→List A1
  | some (_,l) :: r,.v _ m :: e=>zlZ l m++znJ r e
  | _ :: r,_ :: e=>znJ r e
  | _,_=>[]
theorem readS_ok (hx:fz=true→PN∈muts) (hm:∀ n e,look n s'.ents=some e→e.mut=true→zaC src n∈muts):∀ {l:List (Option (Bool × List C1T))} {env:List AV} {x:Tys (ksS l)},znC fz s (znJ l env)→readS s.ents src muts l env=some x →
    (encS l x).length=env.length∧∀ (t:Nat) b,(encS l x)[t]? = some b→∃ a,env[t]? = some a∧WAV fz s s' (zaC src) a b
  | [],[],x,_,_=>⟨rfl,fun t b h=>by simp[encS] at h⟩
  | none :: r,a :: e,x,hz,h=>by
    obtain ⟨h1,h2⟩:=readS_ok hx hm (l:=r) hz h
    refine ⟨by simp[encS,h1],fun t b hb=>?_⟩
    cases t with
    | zero=>simp[encS] at hb; subst hb; exact ⟨a,rfl,.inl rfl⟩
    | succ t=>simp only[encS,List.getElem?_cons_succ] at hb ⊢; exact h2 t b hb
  | some (g, l) :: r,.v g' m :: e,x,hz,h=>by
    have hz1:znC fz s (zlZ l m):=znC.left (m:=znJ r e) hz
    have hz2:znC fz s (znJ r e):=znC.right (l:=zlZ l m) hz
    have main:∀ x,(match readL s.ents src muts l m with
      | some x=>match readS s.ents src muts r e with
        | some y=>some (Tys.app (ksL l) (ksS r) x y)
        | none=>none
      | none=>none)=some x→g=g'→(encS (some (g,l) :: r) x).length=(AV.v g' m :: e).length∧∀ (t:Nat) b,(encS (some (g,l) :: r) x)[t]? = some b→∃ a,(AV.v g' m :: e)[t]? = some a∧WAV fz s s' (zaC src) a b:=by
      intro x h' hg
      subst hg
      cases h1:readL s.ents src muts l m with
      | none=>rw[h1] at h'; cases h'
      | some y =>
        rw[h1] at h'
        cases h2:readS s.ents src muts r e with
        | none=>rw[h2] at h'; cases h'
        | some z =>
          rw[h2] at h'; cases h'
          obtain ⟨k1,k2⟩:=readS_ok hx hm (l:=r) hz2 h2
          refine ⟨by simp only[encS,zgu,List.length_cons,k1],fun t b hb=>?_⟩
          cases t with
          | zero =>
            simp only[encS,zgv,List.getElem?_cons_zero,Option.some.injEq] at hb
            subst hb
            exact ⟨_,rfl,.inr ⟨g,m,_,rfl,rfl,readL_ok hx hm hz1 h1⟩⟩
          | succ t =>
            simp only[encS,zgu,List.getElem?_cons_succ] at hb ⊢
            exact k2 t b hb
    cases g<;>cases g'
    · exact main x h rfl
    · cases h
    · cases h
    · exact main x h rfl
  | some (_,_) :: _,.tup _ :: _,_,_,h=>by cases h
  | [],_ :: _,_,_,h=>by cases h
  | none :: _,[],_,_,h=>by cases h
  | some (_,_) :: _,[],_,_,h=>by cases h
theorem readE_ok (hx:fz=true→PN∈muts) (hm:∀ n e,look n s'.ents=some e→e.mut=true→zaC src n∈muts):∀ {l:List (Nat × ET)} {x:Tys (ksE l)},znC fz s (zjZ s.ents src l)→readE s.ents src muts l=some x →
    ∀ n e',look n (zgy l x)=some e'→∃ e,look (zaC src n) s.ents=some e ∧
    ((∃ l l',e = .box l∧e' = .box l'∧WL fz s s' (zaC src) l l')∨(∃ fr t xs,e = .arr fr t xs∧e' = .arr fr t xs)∨(∃ t xs,e = .deep false t xs∧e' = .deep false t xs)∨∃ k,e = .pool k∧e' = .pool k)
  | (k, .deep t) :: r,x,hzz,h,n,e',hl=>by
    have h' : (match look (zaC src k) s.ents with
      | some (.deep false u xs)=>match ST.cast u t xs with
          | some x=>match readE s.ents src muts r with
            | some y=>some ((x,y):Tys (ksE ((k,.deep t) :: r)))
            | none=>none
          | none=>none
      | _=>none)=some x:=h
    split at h'
    · rename_i u xs hk
      split at h'
      · rename_i y hc
        split at h'
        · rename_i z hz
          cases h'
          obtain ⟨rfl,rfl⟩:=cast_eq hc
          have hl2:(if n=k then some (Ent.deep false u xs) else look n (zgy r z))=some e':=by rw[← zaq]; exact hl
          split at hl2
          · rename_i hn; subst hn; cases hl2
            exact ⟨_,hk,.inr (.inr (.inl ⟨u,xs,rfl,rfl⟩))⟩
          · exact readE_ok hx hm (l:=r) hzz hz n e' hl2
        · cases h'
      · cases h'
    · cases h'
  | (k, .pool) :: r,x,hzz,h,n,e',hl=>by
    have h':(match look (zaC src k) s.ents with
      | some (.pool q)=>match readE s.ents src muts r with
        | some y=>some ((q,y):Tys (ksE ((k,.pool) :: r)))
        | none=>none
      | _=>none)=some x:=h
    split at h'
    · rename_i q hk
      split at h'
      · rename_i z hz
        cases h'
        have hl2:(if n=k then some (Ent.pool q) else look n (zgy r z))=some e':=by rw[← zaq]; exact hl
        split at hl2
        · rename_i hn; subst hn; cases hl2
          exact ⟨_,hk,.inr (.inr (.inr ⟨q,rfl,rfl⟩))⟩
        · exact readE_ok hx hm (l:=r) hzz hz n e' hl2
      · cases h'
    · cases h'
  | [],x,_,_,n,e',hl=>by cases hl
  | (k, .box l) :: r,x,hz,h,n,e',hl=>by
    have h':(match look (zaC src k) s.ents with
      | some (.box m)=>match readL s.ents src muts l m with
        | some x=>match readE s.ents src muts r with
          | some y=>some (Tys.app (ksL l) (ksE r) x y:Tys (ksE ((k,.box l) :: r)))
          | none=>none
        | none=>none
      | _=>none)=some x:=h
    split at h'
    · rename_i m hk
      have hz':znC fz s (zlZ l m++zjZ s.ents src r):=by
        have:zjZ s.ents src ((k,.box l) :: r)=zlZ l m++zjZ s.ents src r:=by simp only[zjZ,hk]
        rw[this] at hz; exact hz
      split at h'
      · rename_i y hy
        split at h'
        · rename_i z hzz
          cases h'
          simp only[zgy,zgv,zgu,zaq] at hl
          split at hl
          · rename_i hn; subst hn; cases hl
            exact ⟨.box m,hk,.inl ⟨m,_,rfl,rfl,readL_ok hx hm hz'.left hy⟩⟩
          · exact readE_ok hx hm hz'.right hzz n e' hl
        · cases h'
      · cases h'
    · cases h'
  | (k, .arr true t) :: r,x,hzz,h,n,e',hl=>by
    have h' : (match look (zaC src k) s.ents with
      | some (.arr true u xs)=>match ST.cast u t xs with
          | some x=>match readE s.ents src muts r with
            | some y=>some ((x,y):Tys (ksE ((k,.arr true t) :: r)))
            | none=>none
          | none=>none
      | _ => none)=some x:=by
        rw[← h]
        show _ = (match look (zaC src k) s.ents with
          | some (.arr fr' u xs)=>match true,fr' with
            | true,true | false,false=>match ST.cast u t xs with
              | some x=>match readE s.ents src muts r with
                | some y=>some ((x,y):Tys (ksE ((k,.arr true t) :: r)))
                | none=>none
              | none=>none
            | _,_=>none
          | _=>none)
        cases look (zaC src k) s.ents with
        | none=>rfl
        | some e=>cases e with
          | box l=>rfl
          | deep _ _ _=>rfl
          | pool _=>rfl
          | arr fr' u xs=>cases fr'<;>rfl
    split at h'
    · rename_i u xs hk
      split at h'
      · rename_i y hc
        split at h'
        · rename_i z hz
          cases h'
          obtain ⟨rfl,rfl⟩:=cast_eq hc
          have hl2:(if n=k then some (Ent.arr true u xs) else look n (zgy r z))=some e':=by rw[← zaq]; exact hl
          split at hl2
          · rename_i hn; subst hn; cases hl2
            exact ⟨_,hk,.inr (.inl ⟨true,u,xs,rfl,rfl⟩)⟩
          · exact readE_ok hx hm (l:=r) hzz hz n e' hl2
        · cases h'
      · cases h'
    · cases h'
  | (k, .arr false t) :: r,x,hzz,h,n,e',hl=>by
    have h' : (match look (zaC src k) s.ents with
      | some (.arr false u xs)=>match ST.cast u t xs with
          | some x=>match readE s.ents src muts r with
            | some y=>some ((x,y):Tys (ksE ((k,.arr false t) :: r)))
            | none=>none
          | none=>none
      | _ => none)=some x:=by
        rw[← h]
        show _ = (match look (zaC src k) s.ents with
          | some (.arr fr' u xs)=>match false,fr' with
            | true,true | false,false=>match ST.cast u t xs with
              | some x=>match readE s.ents src muts r with
                | some y=>some ((x,y):Tys (ksE ((k,.arr false t) :: r)))
                | none=>none
              | none=>none
            | _,_=>none
          | _=>none)
        cases look (zaC src k) s.ents with
        | none=>rfl
        | some e=>cases e with
          | box l=>rfl
          | deep _ _ _=>rfl
          | pool _=>rfl
          | arr fr' u xs=>cases fr'<;>rfl
    split at h'
    · rename_i u xs hk
      split at h'
      · rename_i y hc
        split at h'
        · rename_i z hz
          cases h'
          obtain ⟨rfl,rfl⟩:=cast_eq hc
          have hl2:(if n=k then some (Ent.arr false u xs) else look n (zgy r z))=some e':=by rw[← zaq]; exact hl
          split at hl2
          · rename_i hn; subst hn; cases hl2
            exact ⟨_,hk,.inr (.inl ⟨false,u,xs,rfl,rfl⟩)⟩
          · exact readE_ok hx hm (l:=r) hzz hz n e' hl2
        · cases h'
      · cases h'
    · cases h'
theorem Tm.zvq {T:Tm} {ex:List Nat} {x:Tys T.ks} (h:T.zEU ex s=some x) (hx:fz=true→PN∈ex) (hz:znC fz s (znJ T.slots s.env++zjZ s.ents (T.src s) T.ents)):Wk fz s (T.enc x) (zaC (T.src s)):=by
  unfold Tm.zEU at h
  simp only at h
  split at h
  · rename_i hn0
    obtain ⟨hn,hpn⟩:=Bool.and_eq_true_iff.1 hn0
    split at h
    · rename_i y hy
      split at h
      · rename_i z hzz
        cases h
        have he:(T.enc (Tys.app (ksS T.slots) (ksE T.ents) y z)).ents=zgy T.ents z:=by simp only[Tm.enc,zgu]
        have hv:(T.enc (Tys.app (ksS T.slots) (ksE T.ents) y z)).env=encS T.slots y:=by simp only[Tm.enc,zgv]
        have hm:∀ n e,look n (T.enc (Tys.app (ksS T.slots) (ksE T.ents) y z)).ents=some e→e.mut=true→zaC (T.src s) n∈ex++zjF (T.src s) T.ents:=by
          intro n e hl hmu; rw[he] at hl; exact List.mem_append_right _ (zdJ hl hmu)
        have hx:fz=true→PN∈ex++zjF (T.src s) T.ents:=fun h=>List.mem_append_left _ (hx h)
        obtain ⟨k1,k2⟩:=readS_ok hx hm hz.left hy
        refine ⟨(by rw[hv]; exact k1),fun t b hb=>?_,fun n e' hl=>?_,fun n m e f h1 h2 h3 h4 h5=>?_,Nat.eq_of_beq_eq_true hpn⟩
        · rw[hv] at hb; exact k2 t b hb
        · rw[he] at hl; exact readE_ok hx hm hz.right hzz n e' hl
        · rw[he] at h1 h2; exact ziy (ze9 hn) h1 h2 h3 h4 h5
      · cases h
    · cases h
  · cases h
theorem Tm.zAU {T:Tm} {x:Tys T.ks} (h:T.read s=some x):Wk false s (T.enc x) (zaC (T.src s)):=Tm.zvq (ex:=[]) h (fun e=>by cases e) fun e=>by cases e
theorem zFG {l:List A1}:znC false s l:=fun h=>by cases h
theorem zmE {src:List (Nat × Nat)}:∀ {l:List (Nat × ET)},pinsOk src l=true→∀ n e,(n,e)∈l→n % 64=63→zaC src n=n
  | (m, f) :: r,h,n,e,hm,hn=>by
    unfold pinsOk at h
    rcases List.mem_cons.1 hm with h0 | hm
    · cases h0
      have:Nat.beq (m % 64) 63=true:=by rw[hn]; rfl
      rw[this] at h
      simp only at h
      split at h
      · rename_i hb; exact Nat.eq_of_beq_eq_true hb
      · cases h
    · split at h
      · split at h
        · exact zmE h n e hm hn
        · cases h
      · exact zmE h n e hm hn
theorem zgg {n:Nat} {e:Ent}:∀ {l:List (Nat × ET)} {x:Tys (ksE l)},look n (zgy l x)=some e→∃ t,(n,t)∈l
  | (k,.box l) :: r,x,h=>by
    simp only[zgy,zaq] at h
    split at h
    · rename_i hk; subst hk; exact ⟨_,List.mem_cons_self ..⟩
    · obtain ⟨t,ht⟩:=zgg (l:=r) h; exact ⟨t,List.mem_cons_of_mem _ ht⟩
  | (k,.arr fr t) :: r,x,h=>by
    simp only[zgy,zaq] at h
    split at h
    · rename_i hk; subst hk; exact ⟨_,List.mem_cons_self ..⟩
    · obtain ⟨t,ht⟩:=zgg (l:=r) h; exact ⟨t,List.mem_cons_of_mem _ ht⟩
  | (k,.deep t) :: r,x,h=>by
    simp only[zgy,zaq] at h
    split at h
    · rename_i hk; subst hk; exact ⟨_,List.mem_cons_self ..⟩
    · obtain ⟨t,ht⟩:=zgg (l:=r) h; exact ⟨t,List.mem_cons_of_mem _ ht⟩
  | (k,.pool) :: r,x,h=>by
    simp only[zgy,zaq] at h
    split at h
    · rename_i hk; subst hk; exact ⟨_,List.mem_cons_self ..⟩
    · obtain ⟨t,ht⟩:=zgg (l:=r) h; exact ⟨t,List.mem_cons_of_mem _ ht⟩
theorem Tm.zoT {C:Bs} {bt:Nat→Option Value} {tm:Array Value} {w:World} {T:Tm} {x:Tys T.ks} (h:T.zAV s=some x) (g:Gam C s NoX bt tm w):Gam C (T.enc x) NoX (fun n=>bt (zaC (T.src s) n)) tm w:=by
  unfold Tm.zAV at h
  split at h
  · rename_i hp
    refine g.wk (Tm.zAU h) ?_
    intro k e hl hk
    have hm:=zgg (l:=T.ents) hl
    exact hm.elim fun t ht=>zmE hp k t ht hk
  · cases h
end
end Go.Di
open Go.RowKit (Below)
namespace Go.Di
def AV.has (a:A1):AV→Prop
  | .v _ l=>a∈l
  | .tup ps=>∃ p∈ps,a∈p.2
theorem zcm.conv {x y:Cx}:∀ {l:List A1} {vs:List Value},(∀ a∈l,∀ v,A1Ok x a v→A1Ok y a v)→zcm x l vs→zcm y l vs
  | [],[],_,_=>trivial
  | a :: _l,v :: _vs,h,⟨h1,h2,h3⟩=>⟨h a (List.mem_cons_self ..) v h1,h2,h3.conv fun b hb=>h b (List.mem_cons_of_mem _ hb)⟩
  | [],_ :: _,_,h=>h.elim
  | _ :: _,[],_,h=>h.elim
theorem VOk.conv {x y:Cx} {g:Bool} {l:List A1} {v:Value} (h:∀ a∈l,∀ v,A1Ok x a v→A1Ok y a v) (hv:VOk x g l v):VOk y g l v:=by
  cases g with
  | true=>obtain ⟨vs,h1,h2⟩:=hv; exact ⟨vs,h1,h2.conv h⟩
  | false=>obtain ⟨a,rfl,h2,h3⟩:=hv; exact ⟨a,rfl,h a (List.mem_cons_self ..) v h2,h3⟩
theorem zkC.conv {x y:Cx}:∀ {ps:List (Bool × List A1)} {vs:List Value},(∀ p∈ps,∀ a∈p.2,∀ v,A1Ok x a v→A1Ok y a v)→zkC x ps vs→zkC y ps vs
  | [],[],_,_=>trivial
  | p :: _l,_v :: _vs,h,⟨h1,h2⟩=>⟨VOk.conv (h p (List.mem_cons_self ..)) h1,h2.conv fun q hq=>h q (List.mem_cons_of_mem _ hq)⟩
  | [],_ :: _,_,h=>h.elim
  | _ :: _,[],_,h=>h.elim
theorem zaS.conv {x y:Cx} {a:AV} {v:Value} (h:∀ b,a.has b→∀ v,A1Ok x b v→A1Ok y b v) (hv:zaS x a v):zaS y a v:=by
  cases a with
  | v g l=>exact VOk.conv h hv
  | tup ps=>obtain ⟨vs,h1,h2⟩:=hv; exact ⟨vs,h1,h2.conv fun p hp b hb=>h b ⟨p,hp,hb⟩⟩
def bare:Cell→Prop
  | .sl _ _=>False
  | _=>True
theorem zL4 {c:Cell} (h:bare c):∀ t xs,c ≠ .sl t xs:=by
  intro t xs he; subst he; exact h
def zlW (tup:Bool) (vs:Array Value):Value:=match tup with
  | true => .tuple vs
  | false=>vs.getD 0 undef
def zav (P:Program) (F:Nat→Option (Array Value→Prop)) (f:FuncId) (c:Con):Prop :=
  ∀ (C:Bs) (w:World) (β:Nat→Option Value) (args:Array Value) (x:Tys c.sig.tin.ks) (y:c.ρ),C.fix=F→c.run x=some y→Gam C (c.sig.tin.enc x) NoX β args w →
    Calls P f args w fun e w'=>∃ vs β',e = .returned (zlW c.sig.tup vs)∧Kp C.keep w w'∧Gam C (c.sig.zhH.enc (c.out y)) NoX β' vs w'
/-! ### How a call finds the state -/
section
variable {P:Program} {C:Bs} {w w':World} {s s':St} {X:Nat→Prop} {β β':Nat→Option Value} {a:Act} {o:Oper} {tm:Array Value} {src:Nat→Nat} {fz:Bool}
  {t:TypeId} {x y:Operand} {i:TI} {K:Act→World→Prop} {Q:Exit→Act→World→Prop}
def Callable (P : Program) (f : FuncId) : Prop := ∃ fn, P.funcs[f]? = some fn ∧ (fn.name == "runtime.NumGoroutine") = false ∧ fn.body.isNone = false
theorem zvl {f:FuncId} (hf:Callable P f) {args:Array Operand} {ts:Array TypeId} (ho:o.op = .call { callee := .value (.func f),args:=args,argTypes:=ts }) :
    (execOp a.eval o).run P w = .ok (.enter f (args.map a.eval)) w:=by
  obtain ⟨fn,h1,h2,h3⟩:=hf
  simp only[beq_eq_false_iff_ne,ne_eq] at h2
  have h4:fn.body≠none:=by intro e; rw[e] at h3; cases h3
  simp[execOp,ho,resolve,Act.eval,Deferred.ofValue,invoke,callFunc,h1,h2,h4]
def zuH (fz:Bool) (C:Bs) (s:St) (β:Nat→Option Value) (w:World):Nat→Prop:=match fz with
  | false=>fun _=>True
  | true=>fun b=>b < w.heap.size∧¬ Top (fun n=>look n s.ents) β b∧(¬ C.keep b∨C.old b)
def zpW (fz:Bool) (C:Bs) (s s':St) (src:Nat→Nat) (β:Nat→Option Value) (w:World):Bs where
  keep b:=b < w.heap.size∧¬ Top (fun n=>look n s'.ents) (fun n=>β (src n)) b
  w0:=w
  old:=zuH fz C s β w
  pin n:=if n % 64=63∧n≠PN then β (src n) else none
  fix:=C.fix
  sure _:=True
  tk:=some (zd5 fun n=>β (src n))
theorem zGJ:QOk fz C s β w (zuH fz C s β w):=by
  cases fz with
  | false=>exact ⟨fun _ _ _ _=>trivial,fun _ _ _=>trivial⟩
  | true=>exact ⟨fun b h1 h2 h3=>⟨h1,h2,h3⟩,fun h=>by cases h⟩
theorem zxg (g:Gam C s NoX β tm w) (h:Wk fz s s' src) (hpn:look PN s'.ents=none):Gam (zpW fz C s s' src β w) s' NoX (fun n=>β (src n)) tm w:=by
  have hq:QOk fz C s β w (zuH fz C s β w):=zGJ
  have hle:Le (zJ5 s' src β w (zuH fz C s β w)) (cx (zpW fz C s s' src β w) s' (fun n=>β (src n)) w) (fun _=>True) :=
    ⟨fun _ h => .inr h,fun _ _ _=>rfl,Nat.le_refl _,fun _ _ _ h=>h,fun n _ => .inr (.inl ⟨rfl,.inl rfl⟩),fun _ _ _ fr _ _ h=>⟨fr,h,rfl⟩,fun _ _ h=>h⟩
  refine ⟨h.len.trans g.len,fun t b hx hb=>?_,fun n e' v hl hv=>?_,h.uniq g,fun b hb=>⟨fun hk=>hk.2 hb,(g.fresh b (h.top hb)).2⟩,fun b hb=>hb.1,Kp.refl _ _,fun n v hp _=>?_,fun n hn=>?_,fun n e he=>?_,fun b p hp=>?_,fun π hπ=>⟨by cases hπ; rfl,hpn⟩⟩
  · obtain ⟨a,h1,h2⟩:=h.env t b hb
    exact hle.av (zkf b) (h.av g hq h2 (g.env t a hx h1))
  · exact EntOk.le hle (by cases e'<;>first | exact ze3 _ | trivial) (fun _ _ _=>rfl) (h.zNO g hq hl hv)
  · simp only[zpW] at hp
    split at hp
    · exact hp
    · cases hp
  · simp only[zpW] at hn
    split at hn
    · assumption
    · cases hn
  · obtain ⟨e0,h1,_⟩:=h.ents n e he
    exact g.bs (src n) e0 h1
  · exact ⟨⟨trivial,g.kb b (g.fx b p hp).1.2,fun ht=>(g.fresh b (h.top ht)).1 (g.fx b p hp).1.2⟩,g.fxw b p hp⟩
/-! ### Names that go -/
theorem freeN_spec:∀ (K:List Nat) (s:St),(∀ m,m∈K→look m (St.zaZ K s).ents=none) ∧
    (∀ m f,look m (St.zaZ K s).ents=some f→m ∉ K∧∃ f0,look m s.ents=some f0∧f.mut=f0.mut∧(f=f0∨∃ l l',f0 = .box l∧f = .box l')∧f.refs (fun n=>n ∉ K)∧(∀ q,f0.refs q→f.refs q)∧∀ (x:Cx) v,EntOk x f0 v→EntOk x f v) ∧
    (∀ m f0,look m s.ents=some f0→m ∉ K→∃ f,look m (St.zaZ K s).ents=some f∧(f=f0∨∃ l l',f0 = .box l∧f = .box l')) ∧
    ((St.zaZ K s).env.length=s.env.length) ∧
    ∀ (t:Nat) a,(St.zaZ K s).env[t]? = some a→∃ a0,s.env[t]? = some a0∧a.refs (fun n=>n ∉ K)∧(∀ q,a0.refs q→a.refs q)∧∀ (x:Cx) v,zaS x a0 v→zaS x a v
  | [],s=>by
    have one:∀ b:A1,b.refs (fun k=>k ∉ ([]:List Nat)):=by
      intro b; cases b<;>first | trivial | simp[A1.refs]
    refine ⟨(fun m h=>by cases h),(fun m f h=>⟨by simp,f,h,rfl,.inl rfl,?_,fun _ h=>h,fun _ _ h=>h⟩),(fun m f0 h _=>⟨f0,h,.inl rfl⟩),rfl,(fun t a h=>⟨a,h,?_,fun _ h=>h,fun _ _ h=>h⟩)⟩
    · cases f with
      | box l=>exact fun b _=>one b
      | arr _ _ _=>trivial
      | deep _ _=>trivial
      | pool _=>trivial
    · cases a with
      | v g l=>exact fun b _=>one b
      | tup ps=>exact fun p _ b _=>one b
  | n :: K, s => by
    obtain ⟨h1,h2,h3,h4,h5⟩:=freeN_spec K (s.free n)
    have le:(s.free n).env.length=s.env.length:=by simp[St.free,zea]
    refine ⟨fun m hm=>?_,fun m f hf=>?_,fun m f0 hf hm=>?_,h4.trans le,fun t a ha=>?_⟩
    · by_cases hk:m∈K
      · exact h1 m hk
      · have:m=n:=(List.mem_cons.1 hm).resolve_right hk
        subst this
        cases hl:look m (St.zaZ K (s.free m)).ents with
        | none=>exact hl
        | some f =>
          obtain ⟨_,f0,q,_⟩:=h2 m f hl
          simp[za3] at q
    · obtain ⟨k1,f1,k2,k3,k4,k5,k5b,k6⟩:=h2 m f hf
      simp only[za3] at k2
      split at k2
      · cases k2
      · rename_i hmn
        cases h0:look m s.ents with
        | none=>simp[h0] at k2
        | some f0 =>
          simp[h0] at k2; subst k2
          refine ⟨by simp[hmn,k1],f0,rfl,by rw[k3,zdq],?_,?_,fun q hq=>k5b q (zha n hq),fun x v hv=>k6 x v (hv.kill n)⟩
          · cases f0 with
            | box l =>
              right
              rcases k4 with rfl | ⟨l1,l2,q,rfl⟩
              · exact ⟨l,_,rfl,rfl⟩
              · exact ⟨l,l2,rfl,rfl⟩
            | arr fr t xs =>
              rcases k4 with rfl | ⟨l1,l2,q,rfl⟩
              · exact .inl rfl
              · cases q
            | deep t xs =>
              rcases k4 with rfl | ⟨l1,l2,q,rfl⟩
              · exact .inl rfl
              · cases q
            | pool k =>
              rcases k4 with rfl | ⟨l1,l2,q,rfl⟩
              · exact .inl rfl
              · cases q
          · have r1:f.refs (·≠n):=k5b _ (zdN n f0)
            have:=zlK r1 k5
            cases f with
            | arr _ _ _=>trivial
            | deep _ _=>trivial
            | pool _=>trivial
            | box l =>
              intro b hb
              have:=this b hb
              cases b<;>first | trivial | (intro hm; rcases List.mem_cons.1 hm with e | e; exact this.1 e; exact this.2 e) | exact ⟨fun hm=>(List.mem_cons.1 hm).elim this.1.1 this.1.2,fun hm=>(List.mem_cons.1 hm).elim this.2.1 this.2.2⟩
    · simp only[List.mem_cons,not_or] at hm
      have q:look m (s.free n).ents=some (f0.kill n):=by simp[za3,hm.1,hf]
      obtain ⟨f,k1,k2⟩:=h3 m _ q hm.2
      refine ⟨f,k1,?_⟩
      cases f0 with
      | box l =>
        right
        rcases k2 with rfl | ⟨l1,l2,q,rfl⟩
        · exact ⟨l,_,rfl,rfl⟩
        · exact ⟨l,l2,rfl,rfl⟩
      | arr fr t xs =>
        rcases k2 with rfl | ⟨l1,l2,q,rfl⟩
        · exact .inl rfl
        · cases q
      | deep t xs =>
        rcases k2 with rfl | ⟨l1,l2,q,rfl⟩
        · exact .inl rfl
        · cases q
      | pool k =>
        rcases k2 with rfl | ⟨l1,l2,q,rfl⟩
        · exact .inl rfl
        · cases q
    · obtain ⟨a1,k1,k2,k2b,k3⟩:=h5 t a ha
      simp only[St.free,zeh] at k1
      cases h0:s.env[t]? with
      | none=>simp[h0] at k1
      | some a0 =>
        simp[h0] at k1; subst k1
        refine ⟨a0,rfl,?_,fun q hq=>k2b q (zhM n hq),fun x v hv=>k3 x v (hv.kill n)⟩
        have r1:a.refs (·≠n):=k2b _ (zeb n a0)
        have:=zmx r1 k2
        have one:∀ b:A1,b.refs (fun k=>k≠n∧k ∉ K)→b.refs (fun k=>k ∉ n :: K):=by
          intro b hb
          cases b<;>first | trivial | (intro hm; rcases List.mem_cons.1 hm with e | e; exact hb.1 e; exact hb.2 e) | exact ⟨fun hm=>(List.mem_cons.1 hm).elim hb.1.1 hb.1.2,fun hm=>(List.mem_cons.1 hm).elim hb.2.1 hb.2.2⟩
        cases a with
        | v g l=>exact fun b hb=>one b (this b hb)
        | tup ps=>exact fun p hp b hb=>one b (this p hp b hb)
end
end Go.Di
open Go.RowKit (Below)
namespace Go.Di
def zL7 (e e':Ent):Prop:=(∃ l l',e = .box l∧e' = .box l')∨(∃ (t:ST) (xs xs':List t.El),e = .arr false t xs∧e' = .arr false t xs'∧xs'.length=xs.length) ∨
  ∃ (t:ST) (xs xs':List t.El),e = .deep false t xs∧e' = .deep false t xs'∧xs'.length=xs.length
section
variable {P:Program} {C:Bs} {w w':World} {s s':St} {X:Nat→Prop} {β β':Nat→Option Value} {tm:Array Value}
theorem zL7.mut {e e':Ent} (h:zL7 e e'):e.mut=true∧e'.mut=true:=by
  rcases h with ⟨l,l',rfl,rfl⟩ | ⟨t,xs,xs',rfl,rfl,_⟩ | ⟨t,xs,xs',rfl,rfl,_⟩<;>exact ⟨rfl,rfl⟩
theorem Gam.call (g:Gam C s X β tm w) {K:List Nat} {l:List (Nat × Ent)} (hn:(names l).Nodup)
    (hin:∀ n e',(n,e')∈l→n∈K∨∃ e,look n s.ents=some e∧zL7 e e')
    (hstir:∀ n fr t xs,(n,Ent.deep fr t xs)∈l→n ∉ K→dcn n∈K)
    (hβ:∀ m,m ∉ names l∨m ∉ K→β' m=β m)
    (hw:∀ b,b < w.heap.size→¬ Top (fun n=>look n s.ents) β b→w'.heap[b]? = w.heap[b]?)
    (hwk:∀ m e v,look m s.ents=some e→e.mut=true→β m=some v→m ∉ K→m ∉ names l→∀ b∈zao v,w'.heap[b]? = w.heap[b]?)
    (hsz:w.heap.size≤w'.heap.size) (hbel:Kp C.keep w w')
    (htopn:∀ n e v b,(n,e)∈l→β' n=some v→e.mut=true→b∈zao v→b < w'.heap.size∧(w.heap.size≤b∨(Top (fun n=>look n s.ents) β b∧∀ m e0 u,look m s.ents=some e0→e0.mut=true→β m=some u→b∈zao u→m∈K∨m∈names l)))
    (huniq:∀ n m e f v u b,(n,e)∈l→(m,f)∈l→e.mut=true→f.mut=true→β' n=some v→β' m=some u→b∈zao v→b∈zao u→n=m)
    (hpin:∀ n∈names l,n∈K→n % 64≠63) (hbs:∀ n∈names l,(β' n).isSome)
    (hents:Le (cx C s β w) (cx C ⟨(St.zaZ K s).env,Go.Di.zhD l (St.zaZ K s).ents⟩ β' w') (fun n=>n ∉ K)→∀ n e v,(n,e)∈l→β' n=some v→EntOk (cx C ⟨(St.zaZ K s).env,Go.Di.zhD l (St.zaZ K s).ents⟩ β' w') e v) :
    Gam C ⟨(St.zaZ K s).env,Go.Di.zhD l (St.zaZ K s).ents⟩ X β' tm w':=by
  obtain ⟨f1,f2,f3,f4,f5⟩:=freeN_spec K s
  -- what is there behind the call
  have cases_:∀ n e,look n (Go.Di.zhD l (St.zaZ K s).ents)=some e→(n,e)∈l∨(n ∉ names l∧n ∉ K∧∃ e0,look n s.ents=some e0∧e.mut=e0.mut∧e.refs (fun k=>k ∉ K)∧∀ (x:Cx) v,EntOk x e0 v→EntOk x e v):=by
    intro n e h
    rcases zbR l _ n e hn h with h | ⟨h1,h2⟩
    · exact .inl h
    · obtain ⟨q1,e0,q2,q3,_,q5,_,q6⟩:=f2 n e h2
      exact .inr ⟨h1,q1,e0,q2,q3,q5,q6⟩
  have mem_names:∀ n e,(n,e)∈l→n∈names l:=fun n e h=>List.mem_map.2 ⟨_,h,rfl⟩
  have htop:∀ b,Top (fun n=>look n (Go.Di.zhD l (St.zaZ K s).ents)) β' b→b < w'.heap.size∧(w.heap.size≤b∨Top (fun n=>look n s.ents) β b):=by
    rintro b ⟨n,e,v,h1,h2,h3,h4⟩
    rcases cases_ n e h1 with h | ⟨k1,k2,e0,k3,k4,_⟩
    · obtain ⟨q1,q2⟩:=htopn n e v b h h3 h2 h4
      exact ⟨q1,q2.imp id (·.1)⟩
    · rw[hβ n (.inl k1)] at h3
      have hT:Top (fun n=>look n s.ents) β b:=⟨n,e0,v,k3,by rw[← k4]; exact h2,h3,h4⟩
      exact ⟨Nat.lt_of_lt_of_le (g.fresh b hT).2 hsz,.inr hT⟩
  have hPN:β' PN=β PN:=by
    by_cases h1:PN∈names l
    · by_cases h2:PN∈K
      · exact absurd (by decide) (hpin PN h1 h2)
      · exact hβ PN (.inr h2)
    · exact hβ PN (.inl h1)
  have htk:zd5 β'=zd5 β:=by funext i; simp only[zd5,hPN]
  have hle : Le (cx C s β w) (cx C ⟨(St.zaZ K s).env,Go.Di.zhD l (St.zaZ K s).ents⟩ β' w') (fun n=>n ∉ K):=by
    refine ⟨fun _ h=>h,fun b hlt hnt=>hw b hlt hnt,hsz,fun b hlt _ ht=>?_,fun n hk=>?_,fun n hk hk2 fr t xs hy=>?_,fun i v h=>(congrFun htk i).trans h⟩
    · rcases (htop b ht).2 with h | h
      · simp only[cx] at hlt; omega
      · exact h
    · show look n (Go.Di.zhD l (St.zaZ K s).ents)=none∨(β' n=β n∧(look n (Go.Di.zhD l (St.zaZ K s).ents)=look n s.ents ∨
        (∃ l1 l',look n s.ents=some (.box l1)∧look n (Go.Di.zhD l (St.zaZ K s).ents)=some (.box l')) ∨
        (∃ fr fr' t xs xs',look n s.ents=some (.arr fr t xs)∧look n (Go.Di.zhD l (St.zaZ K s).ents)=some (.arr fr' t xs')∧xs'.length=xs.length) ∨
        ∃ fr fr' t xs,look n s.ents=some (.deep fr t xs)∧look n (Go.Di.zhD l (St.zaZ K s).ents)=some (.deep fr' t xs))) ∨
        (∃ fr fr' t xs xs' vs vs',look n s.ents=some (.deep fr t xs)∧look n (Go.Di.zhD l (St.zaZ K s).ents)=some (.deep fr' t xs')∧xs'.length=xs.length∧β n=some (.tuple vs)∧β' n=some (.tuple vs')∧vs'[0]? = vs[0]?) ∨
        ∃ a b vs vs',look n s.ents=some (.pool a)∧look n (Go.Di.zhD l (St.zaZ K s).ents)=some (.pool b)∧β n=some (.tuple vs)∧β' n=some (.tuple vs')∧∀ (i:Nat) (v:Value),vs[i]? = some v→vs'[i]? = some v
      by_cases hm:n∈names l
      · right
        have hbn:=hβ n (.inr hk)
        obtain ⟨p,hp,rfl⟩:=List.mem_map.1 hm
        obtain ⟨n,e'⟩:=p
        have hl':=zeg l (St.zaZ K s).ents n e' hn hp
        obtain ⟨e,k1,k2⟩:=(hin n e' hp).resolve_left hk
        rcases k2 with ⟨l1,l2,rfl,rfl⟩ | ⟨t,xs,xs',rfl,rfl,hx⟩ | ⟨t,xs,xs',rfl,rfl,hx⟩
        · exact .inl ⟨hbn,.inr (.inl ⟨l1,l2,k1,hl'⟩)⟩
        · exact .inl ⟨hbn,.inr (.inr (.inl ⟨false,false,t,xs,xs',k1,hl',hx⟩))⟩
        · right; left
          have hs:=g.bs n _ k1
          cases hb:β n with
          | none=>rw[hb] at hs; cases hs
          | some v =>
            obtain ⟨u,us,rfl,_⟩:=g.ents n _ v k1 hb
            exact ⟨false,false,t,xs,xs',_,_,k1,hl',hx,rfl,by rw[← hb]; exact hbn,rfl⟩
      · rw [za2 n l _ hm]
        cases h0:look n s.ents with
        | none =>
          left
          cases hq:look n (St.zaZ K s).ents with
          | none=>rfl
          | some f=>obtain ⟨_,e0,q,_⟩:=f2 n f hq; rw[h0] at q; cases q
        | some e0 =>
          right; left
          refine ⟨hβ n (.inl hm),?_⟩
          obtain ⟨f,k1,k2⟩:=f3 n e0 h0 hk
          rw[k1]
          rcases k2 with rfl | ⟨l1,l2,rfl,rfl⟩
          · exact .inl rfl
          · exact .inr (.inl ⟨l1,l2,rfl,rfl⟩)
    · have hy:look n (Go.Di.zhD l (St.zaZ K s).ents)=some (.deep fr t xs):=hy
      rcases zbR l _ n _ hn hy with h | ⟨hm,h⟩
      · exact absurd (hstir n fr t xs h hk) hk2
      · obtain ⟨_,f0,q1,_,q3,_⟩:=f2 n _ h
        rcases q3 with rfl | ⟨l1,l2,_,q3⟩
        · exact ⟨fr,q1,hβ n (.inl hm)⟩
        · cases q3
  refine ⟨f4.trans g.len,fun t av hx h=>?_,fun n e v h1 h2=>?_,?_,fun b h=>?_,fun b hk=>Nat.lt_of_lt_of_le (g.kb b hk) hsz,g.below.trans hbel,fun n v hp hl=>?_,g.np,fun n e h=>?_,g.fx,fun π hπ=>⟨htk.trans (g.tk π hπ).1,?_⟩⟩
  · obtain ⟨a0,q1,q2,_,q3⟩:=f5 t av h
    exact hle.av q2 (q3 _ _ (g.env t a0 hx q1))
  · rcases cases_ n e h1 with h | ⟨k1,k2,e0,k3,k4,k5,k6⟩
    · exact hents hle n e v h h2
    · rw[hβ n (.inl k1)] at h2
      exact EntOk.le hle k5 (fun b hb hm=>hwk n e0 v k3 (by rw[← k4]; exact hm) h2 k2 k1 b hb) (k6 _ v (g.ents n e0 v k3 h2))
  · intro n m e f u v b h1 h2 h3 h4 h5 h6 h7 h8
    rcases cases_ n e h1 with h | ⟨k1,k2,e0,k3,k4,_⟩<;>rcases cases_ m f h2 with h' | ⟨q1,q2,e1,q3,q4,_⟩
    · exact huniq n m e f u v b h h' h3 h4 h5 h6 h7 h8
    · rw [hβ m (.inl q1)] at h6
      rcases (htopn n e u b h h5 h3 h7).2 with hh | ⟨_,hh⟩
      · have:=(g.fresh b ⟨m,e1,v,q3,by rw[← q4]; exact h4,h6,h8⟩).2; omega
      · rcases hh m e1 v q3 (by rw[← q4]; exact h4) h6 h8 with hh | hh
        · exact absurd hh q2
        · exact absurd hh q1
    · rw [hβ n (.inl k1)] at h5
      rcases (htopn m f v b h' h6 h4 h8).2 with hh | ⟨_,hh⟩
      · have:=(g.fresh b ⟨n,e0,u,k3,by rw[← k4]; exact h3,h5,h7⟩).2; omega
      · rcases hh n e0 u k3 (by rw[← k4]; exact h3) h5 h7 with hh | hh
        · exact absurd hh k2
        · exact absurd hh k1
    · rw[hβ n (.inl k1)] at h5; rw[hβ m (.inl q1)] at h6
      exact g.uniq n m e0 e1 u v b k3 q3 (by rw[← k4]; exact h3) (by rw[← q4]; exact h4) h5 h6 h7 h8
  · obtain ⟨q1,q2⟩:=htop b h
    refine ⟨fun hk=>?_,q1⟩
    rcases q2 with q2 | q2
    · have:=g.kb b hk; omega
    · exact (g.fresh b q2).1 hk
  · by_cases hm:n∈names l
    · by_cases hk:n∈K
      · exact absurd (g.np n (by rw[hp]; rfl)).1 (hpin n hm hk)
      · rw[hβ n (.inr hk)]
        obtain ⟨p,hp',rfl⟩:=List.mem_map.1 hm
        obtain ⟨e,k1,_⟩:=(hin p.1 p.2 hp').resolve_left hk
        exact g.pin p.1 v hp (by rw[k1]; rfl)
    · rw [hβ n (.inl hm)]
      have hl':(look n (Go.Di.zhD l (St.zaZ K s).ents)).isSome:=hl
      rw[za2 n l _ hm] at hl'
      cases hq:look n (St.zaZ K s).ents with
      | none=>rw[hq] at hl'; cases hl'
      | some f =>
        obtain ⟨_,e0,q,_⟩:=f2 n f hq
        exact g.pin n v hp (by rw[q]; rfl)
  · rcases cases_ n e h with h | ⟨k1,k2,e0,k3,_⟩
    · exact hbs n (mem_names n e h)
    · rw[hβ n (.inl k1)]; exact g.bs n e0 k3
  · cases h:look PN (Go.Di.zhD l (St.zaZ K s).ents) with
    | none=>rfl
    | some e =>
      rcases cases_ PN e h with h | ⟨k1,k2,e0,k3,_⟩
      · rcases hin PN e h with hk | ⟨e0,k1,_⟩
        · exact absurd (by decide) (hpin PN (mem_names PN e h) hk)
        · rw[(g.tk π hπ).2] at k1; cases k1
      · rw[(g.tk π hπ).2] at k3; cases k3
end
end Go.Di
open Go.RowKit (Below)
namespace Go.Di
theorem zeR:∀ (l:List (Nat × ET)) (x:Tys (ksE l)),names (zgy l x)=namesT l
  | [],_=>rfl
  | (n,.box l) :: r,x=>by
    show n :: names (zgy r (Tys.snd (ksL l) (ksE r) x))=n :: namesT r
    rw[zeR r]
  | (n,.arr fr t) :: r,x=>by
    show n :: names (zgy r x.2)=n :: namesT r
    rw[zeR r]
  | (n,.deep t) :: r,x=>by
    show n :: names (zgy r x.2)=n :: namesT r
    rw[zeR r]
  | (n,.pool) :: r,x=>by
    show n :: names (zgy r x.2)=n :: namesT r
    rw[zeR r]
theorem zkK (f:Nat→Nat):∀ l:List (Nat × Ent),names (zJk f l)=(names l).map f
  | []=>rfl
  | (n,e) :: r=>by
    show f n :: names (zJk f r)=f n :: (names r).map f
    rw[zkK f r]
theorem zvz {f:Nat→Nat} {n:Nat} {e:Ent}:∀ {l:List (Nat × Ent)},(n,e)∈zJk f l→∃ q e0,(q,e0)∈l∧n=f q∧e=e0.ren f
  | (m,g) :: r,h=>by
    rcases List.mem_cons.1 h with h | h
    · cases h; exact ⟨m,g,List.mem_cons_self ..,rfl,rfl⟩
    · obtain ⟨q,e0,h1,h2,h3⟩:=zvz (l:=r) h
      exact ⟨q,e0,List.mem_cons_of_mem _ h1,h2,h3⟩
theorem zoS {f:Nat→Nat} {q:Nat} {e:Ent}:∀ {l:List (Nat × Ent)},(q,e)∈l→(f q,e.ren f)∈zJk f l
  | (m,g) :: r,h=>by
    rcases List.mem_cons.1 h with h | h
    · cases h; exact List.mem_cons_self ..
    · exact List.mem_cons_of_mem _ (zoS (l:=r) h)
theorem zvB {n:Nat} {e:Ent}:∀ {l:List (Nat × Ent)},look n l=some e→(n,e)∈l
  | (m,f) :: r,h=>by
    rw[zaq] at h
    split at h
    · rename_i hk; subst hk; cases h; exact List.mem_cons_self ..
    · exact List.mem_cons_of_mem _ (zvB h)
theorem zvA {n:Nat} {e:Ent} {l:List (Nat × Ent)} (hn:(names l).Nodup) (h:(n,e)∈l):look n l=some e:=by
  induction l with
  | nil=>cases h
  | cons p r ih =>
    obtain ⟨m,f⟩:=p
    rw[zaq]
    simp only[names,List.map_cons,List.nodup_cons] at hn
    rcases List.mem_cons.1 h with h1 | h1
    · cases h1; simp
    · have:n≠m:=by
        intro hnm
        subst hnm
        exact hn.1 (List.mem_map.2 ⟨(n,e),h1,rfl⟩)
      rw[if_neg this]; exact ih hn.2 h1
theorem zeS {n:Nat}:∀ {l:List (Nat × ET)},n∈namesT l→∃ t,(n,t)∈l
  | (m,e) :: r,h=>by
    rcases List.mem_cons.1 h with rfl | h
    · exact ⟨e,List.mem_cons_self ..⟩
    · obtain ⟨t,ht⟩:=zeS (l:=r) h; exact ⟨t,List.mem_cons_of_mem _ ht⟩
theorem za0 {n:Nat} {t:ET}:∀ {l:List (Nat × ET)},(n,t)∈l→n∈namesT l
  | (m,e) :: r,h=>by
    rcases List.mem_cons.1 h with h | h
    · cases h; exact List.mem_cons_self ..
    · exact List.mem_cons_of_mem _ (za0 h)
theorem zeT {f:Nat→Nat} {m:Nat}:∀ {l:List (Nat × ET)},m∈zei f l→∃ q t,(q,t)∈l∧q % 64≠63∧m=f q
  | (q,t) :: r,h=>by
    unfold zei at h
    split at h
    · obtain ⟨q',t',h1,h2⟩:=zeT (l:=r) h; exact ⟨q',t',List.mem_cons_of_mem _ h1,h2⟩
    · rename_i hb
      rcases List.mem_cons.1 h with rfl | h
      · exact ⟨q,t,List.mem_cons_self ..,(by intro e; rw[e] at hb; simp at hb),rfl⟩
      · obtain ⟨q',t',h1,h2⟩:=zeT (l:=r) h; exact ⟨q',t',List.mem_cons_of_mem _ h1,h2⟩
theorem zhk {f:Nat→Nat} {q:Nat} {t:ET} (hq:q % 64≠63):∀ {l:List (Nat × ET)},(q,t)∈l→f q∈zei f l
  | (m,e) :: r,h=>by
    unfold zei
    rcases List.mem_cons.1 h with h | h
    · cases h
      have:Nat.beq (q % 64) 63=false:=by rw[Bool.eq_false_iff]; intro hb; exact hq (Nat.eq_of_beq_eq_true hb)
      rw[this]; exact List.mem_cons_self ..
    · have:=zhk hq h (f:=f)
      split
      · exact this
      · exact List.mem_cons_of_mem _ this
theorem zoh {src:List (Nat × Nat)} {outs:List Nat} {p:Nat} {t:ET}:∀ {l:List (Nat × ET)},(p,t)∈l→(p % 64=63∧p∈outs)∨zaC src p∈zjH src outs l
  | (m, e) :: r,h=>by
    unfold zjH
    rcases List.mem_cons.1 h with h | h
    · cases h
      cases h1:Nat.beq (p % 64) 63 with
      | false=>exact .inr (List.mem_cons_self ..)
      | true =>
        cases h2:zgx p outs with
        | false=>exact .inr (List.mem_cons_self ..)
        | true=>exact .inl ⟨Nat.eq_of_beq_eq_true h1,zaA.1 h2⟩
    · rcases zoh (l:=r) h with h | h
      · exact .inl h
      · right
        split
        · exact h
        · exact List.mem_cons_of_mem _ h
theorem zgH {src:List (Nat × Nat)} {outs:List Nat} {m:Nat}:∀ {l:List (Nat × ET)},m∈zjH src outs l→∃ p t,(p,t)∈l∧m=zaC src p∧¬ (p % 64=63∧p∈outs)
  | (p,e) :: r,h=>by
    unfold zjH at h
    split at h
    · obtain ⟨p',t',h1,h2⟩:=zgH (l:=r) h; exact ⟨p',t',List.mem_cons_of_mem _ h1,h2⟩
    · rename_i hne
      rcases List.mem_cons.1 h with rfl | h
      · exact ⟨p,e,List.mem_cons_self ..,rfl,fun ⟨h1,h2⟩=>hne (by rw[h1]; rfl) (zaA.2 h2)⟩
      · obtain ⟨p',t',h1,h2⟩:=zgH (l:=r) h; exact ⟨p',t',List.mem_cons_of_mem _ h1,h2⟩
theorem znx {n:Nat} {t:ET}:∀ {l:List (Nat × ET)},zxE l=true→(n,t)∈l→t.mut=true
  | (m,e) :: r,h,hm=>by
    unfold zxE at h
    split at h
    · rename_i he
      rcases List.mem_cons.1 hm with hm | hm
      · cases hm; exact he
      · exact znx h hm
    · cases h
theorem zgL {n:Nat} {e:ET}:∀ {l:List (Nat × ET)},znI n l=some e→(n,e)∈l
  | (m,f) :: r,h=>by
    unfold znI at h
    split at h
    · rename_i hb; cases h; rw[Nat.eq_of_beq_eq_true hb]; exact List.mem_cons_self ..
    · exact List.mem_cons_of_mem _ (zgL h)
theorem pinIn_ok {ins:List (Nat × ET)} {q:Nat} {e:ET}:∀ {l:List (Nat × ET)},pinIn ins l=true→(q,e)∈l →
    (q % 64=63∧((∃ l1 l2,znI q ins=some (.box l1)∧e = .box l2)∨(∃ t,znI q ins=some (.arr false t)∧e = .arr false t)∨∃ t,znI q ins=some (.deep t)∧e = .deep t))∨(q % 64≠63∧q < 63∧(∀ t,e ≠ .arr true t)∧e ≠ .pool)
  | (m, f) :: r,h,hm=>by
    unfold pinIn at h
    cases hb:Nat.beq (m % 64) 63 with
    | true =>
      rw[hb] at h
      simp only at h
      split at h
      · rename_i l1 l2 h1
        rcases List.mem_cons.1 hm with hm | hm
        · cases hm; exact .inl ⟨Nat.eq_of_beq_eq_true hb,.inl ⟨_,_,h1,rfl⟩⟩
        · exact pinIn_ok h hm
      · rename_i t u h1
        split at h
        · rename_i he
          rcases List.mem_cons.1 hm with hm | hm
          · cases hm; exact .inl ⟨Nat.eq_of_beq_eq_true hb,.inr (.inl ⟨t,h1,by rw[znb he]⟩)⟩
          · exact pinIn_ok h hm
        · cases h
      · rename_i t u h1
        split at h
        · rename_i he
          rcases List.mem_cons.1 hm with hm | hm
          · cases hm; exact .inl ⟨Nat.eq_of_beq_eq_true hb,.inr (.inr ⟨t,h1,by rw[znb he]⟩)⟩
          · exact pinIn_ok h hm
        · cases h
      · cases h
    | false =>
      rw[hb] at h
      simp only at h
      cases hlt:Nat.blt m 63 with
      | false =>
        rw[hlt] at h
        cases f with
        | box l=>cases h
        | deep t=>cases h
        | pool=>cases h
        | arr fr t=>cases fr<;>cases h
      | true =>
        rw[hlt] at h
        have hf:∀ t,f ≠ .arr true t:=by
          rintro t rfl; cases h
        have hp:f ≠ .pool:=by
          rintro rfl; cases h
        have h':pinIn ins r=true:=by
          cases f with
          | pool=>exact absurd rfl hp
          | box l=>exact h
          | deep t=>exact h
          | arr fr t=>cases fr with
            | true=>exact absurd rfl (hf t)
            | false=>exact h
        rcases List.mem_cons.1 hm with hm | hm
        · cases hm
          refine .inr ⟨fun e=>?_,Nat.le_of_ble_eq_true hlt,hf,hp⟩
          rw[e] at hb; simp at hb
        · exact pinIn_ok h' hm
end Go.Di
open Go.RowKit (Below)
namespace Go.Di
theorem zlV {t:ST} (ht:t.zek=true) {e:t.El} {k:Nat} {u:ST} {xs:List u.El} (h:(t.cells e)[k]? = some (.sl u xs)):u = .int:=by
  have hm:=List.mem_of_getElem? h
  cases t with
  | rat=>simp[ST.cells] at hm; rcases hm with h | h<;>exact (Cell.sl.inj h).1
  | sta=>simp[ST.cells] at hm; rcases hm with h | h | h | h<;>exact (Cell.sl.inj h).1
  | obs=>simp[ST.cells] at hm; rcases hm with h | h | h | h<;>exact (Cell.sl.inj h).1
  | _=>cases ht
theorem zvN {t:ST}:∀ {xs:List t.El} {j:Nat} {c:Cell},(flat t xs)[j]? = some c→∃ (e:t.El) (k:Nat),(t.cells e)[k]? = some c
  | [],j,c,h=>by simp[flat] at h
  | x :: r,j,c,h=>by
    have hf:flat t (x :: r)=t.cells x++flat t r:=by simp[flat]
    rw[hf] at h
    rcases Nat.lt_or_ge j (t.cells x).length with hlt | hge
    · rw[List.getElem?_append_left hlt] at h; exact ⟨x,j,h⟩
    · rw[List.getElem?_append_right hge] at h; exact zvN h
theorem zlU {t:ST} (ht:t.zek=true) {xs:List t.El} {k:Nat} {u:ST} {ys:List u.El} (h:(flat t xs)[k]? = some (.sl u ys)):u = .int:=by
  obtain ⟨e,j,h'⟩:=zvN h
  exact zlV ht h'
def zJj (a:A1) (u:Value):Value:=match a with
  | .own _ | .mt=>u
  | _ => .bool false
def znH:List A1→List Value→List Value
  | a :: l,u :: us=>zJj a u :: znH l us
  | _,_=>[]
theorem zfQ:∀ {l:List A1} {us:List Value},l.length=us.length→(znH l us).length=l.length
  | [],[],_=>rfl
  | a :: l,u :: us,h=>by simp[znH,zfQ (l:=l) (us:=us) (by simpa using h)]
theorem zir:∀ {l:List A1} {us:List Value} {k:Nat} {a:A1} {u:Value},l[k]? = some a→us[k]? = some u→(znH l us)[k]? = some (zJj a u)
  | b :: l,v :: us,0,a,u,h1,h2=>by simp at h1 h2; subst h1; subst h2; rfl
  | b :: l,v :: us,k+1,a,u,h1,h2=>by simpa [znH] using zir (l:=l) (us:=us) (by simpa using h1) (by simpa using h2)
section
variable {P:Program} {C:Bs} {w w':World} {s s':St} {X:Nat→Prop} {β β':Nat→Option Value} {a:Act} {o:Oper} {tm:Array Value}
  {t:TypeId} {x y:Operand} {i:TI} {K:Act→World→Prop} {Q:Exit→Act→World→Prop}
def Cell.zEC:Cell→Prop
  | .int _ _ | .bool _ | .str _=>True
  | _=>False
theorem Cell.zEC.plain {c:Cell} (h:c.zEC):c.plain:=by cases c<;>first | trivial | exact h.elim
theorem zgT {es:List (Nat × Ent)} {a:A1} {k:List Nat} (h:a.absorb es=some k):(∃ m ys,a = .own m∧look m es=some (.arr false .int ys)∧k=[m])∨(k=[]∧(a = .mt∨∃ c,a = .d c∧c.zEC)):=by
  cases a with
  | own m =>
    left
    have h':(match look m es with | some (.arr false .int _)=>some [m] | _=>none)=some k:=h
    cases hl:look m es with
    | none=>rw[hl] at h'; cases h'
    | some f =>
      rw[hl] at h'
      cases f with
      | box l=>cases h'
      | deep _ _ _=>cases h'
      | pool _=>cases h'
      | arr fr t ys =>
        cases fr<;>cases t<;>first | cases h' | skip
        exact ⟨m,ys,rfl,hl,rfl⟩
  | mt=>cases h; exact .inr ⟨rfl,.inl rfl⟩
  | d c =>
    right
    cases c with
    | sl t xs=>cases h
    | tok k=>cases h
    | any=>cases h
    | _=>cases h; exact ⟨rfl,.inr ⟨_,rfl,trivial⟩⟩
  | _=>cases h
theorem zr5 (g:Gam C s X β tm w) {a:A1} {k:List Nat} {u:Value} {ck:CK} {z:ck.ty} (ha:A1Ok (cx C s β w) a u) (h:a.absorb s.ents=some k) (has:a.as s.ents ck=some z) (hint:∀ t xs,ck.cell z = .sl t xs→t = .int)
    {y:Cx} (hy:∀ b∈zaN u,y.w.heap[b]? = w.heap[b]?):zdH y u (ck.cell z) (zJj a u):=by
  rcases zgT h with ⟨m,ys,rfl,hl,rfl⟩ | ⟨rfl,rfl | ⟨c,rfl,hc⟩⟩
  · cases ck with
    | sl t =>
      obtain ⟨fr,hl'⟩:=zxB (ys:=z) has
      rw[hl] at hl'
      cases hl'
      have hb:β m=some u:=ha false .int ys hl
      have ho:OwnI (cx C s β w) ys u:=g.ents m _ u hl hb
      exact ⟨rfl,ho.go hy⟩
    | int k=>cases has
    | bool=>cases has
    | str=>cases has
    | nat=>cases has
    | tok=>cases has
    | any=>cases has
  · cases ck with
    | sl t =>
      obtain ⟨ad,rfl⟩:=ha
      have h':some ([]:List t.El)=some z:=has
      cases h'
      have ht:t = .int:=hint t [] rfl
      subst ht
      exact ⟨rfl,.inl ⟨rfl,ad,rfl⟩⟩
    | int k=>cases has
    | bool=>cases has
    | str=>cases has
    | nat=>cases has
    | tok=>cases has
    | any=>cases has
  · have hcell:c=ck.cell z:=zfx (by cases ck<;>exact has)
    subst hcell
    have hr:(cx C s β w).rd u (ck.cell z):=ha
    have hr':y.rd u (ck.cell z):=zfv hr hc.plain
    generalize ck.cell z=c at *
    cases c with
    | sl t xs=>exact hc.elim
    | tok k=>exact hc.elim
    | any=>exact hc.elim
    | _=>exact ⟨rfl,hr'⟩
theorem zfG {b:Nat} {u:Value} (h:b∈zaN u):b∈zao u:=by
  unfold zaN at h
  split at h
  · simpa [zao] using h
  · simpa [zao] using h
  · cases h
theorem zy0 {a:A1} {k:List Nat} {u:Value} (ha:A1Ok (cx C s β w) a u) (h:a.absorb s.ents=some k):∀ b∈zaN (zJj a u),∃ m∈k,∃ v,β m=some v∧v=u∧b∈zao v:=by
  intro b hb
  rcases zgT h with ⟨m,ys,rfl,hl,rfl⟩ | ⟨rfl,rfl | ⟨c,rfl,hc⟩⟩
  · have hbm:β m=some u:=ha false .int ys hl
    refine ⟨m,List.mem_singleton.2 rfl,u,hbm,rfl,?_⟩
    exact zfG hb
  · obtain ⟨ad,rfl⟩:=ha
    cases ad<;>simp[zJj,zaN] at hb
  · simp[zJj,zaN] at hb
theorem zd8 (v:Value):(zaN v).Nodup:=by
  unfold zaN
  split<;>simp
theorem zfe {es:List (Nat × Ent)} {a:A1} {r:List A1} {K:List Nat} (h:zdr es (a :: r)=some K):∃ k l,a.absorb es=some k∧zdr es r=some l∧K=k++l:=by
  unfold zdr at h
  split at h
  · rename_i k l h1 h2; cases h; exact ⟨k,l,h1,h2,rfl⟩
  · cases h
theorem zh5 (g:Gam C s X β tm w):∀ {l:List A1} {us:List Value} {K:List Nat},zcm (cx C s β w) l us→zdr s.ents l=some K→K.Nodup →
    ((znH l us).flatMap zaN).Nodup∧∀ b∈(znH l us).flatMap zaN,∃ m∈K,∃ v,β m=some v∧b∈zao v
  | [],[],K,_,_,_=>⟨by simp[znH],fun b hb=>by simp[znH] at hb⟩
  | a :: l,u :: us,K,⟨h1,_,h3⟩,h,hK=>by
    obtain ⟨k,l',e1,e2,rfl⟩:=zfe h
    have hK':=List.nodup_append.1 hK
    obtain ⟨r1,r2⟩:=zh5 g h3 e2 hK'.2.1
    have t1:=zy0 h1 e1
    simp only[znH,List.flatMap_cons]
    refine ⟨List.nodup_append.2 ⟨zd8 _,r1,fun b hb c hc e=>?_⟩,fun b hb=>?_⟩
    · subst e
      obtain ⟨m,hm,v,k1,k2,k3⟩:=t1 b hb
      obtain ⟨m',hm',v',k1',k3'⟩:=r2 b hc
      have mutOf:∀ n,n∈k++l'→∃ e,look n s.ents=some e∧e.mut=true:=absorb_mut h
      obtain ⟨f,f1,f2⟩:=mutOf m (List.mem_append_left _ hm)
      obtain ⟨f',f1',f2'⟩:=mutOf m' (List.mem_append_right _ hm')
      have:=g.uniq m m' f f' v v' b f1 f1' f2 f2' k1 k1' k3 k3'
      subst this
      exact hK'.2.2 m hm m hm' rfl
    · rcases List.mem_append.1 hb with hb | hb
      · obtain ⟨m,hm,v,k1,_,k3⟩:=t1 b hb
        exact ⟨m,List.mem_append_left _ hm,v,k1,k3⟩
      · obtain ⟨m,hm,v,k1,k3⟩:=r2 b hb
        exact ⟨m,List.mem_append_right _ hm,v,k1,k3⟩
  | [],_ :: _,_,h,_,_=>h.elim
  | _ :: _,[],_,h,_,_=>h.elim
where
  absorb_mut {s:St}:∀ {l:List A1} {K:List Nat},zdr s.ents l=some K→∀ n∈K,∃ e,look n s.ents=some e∧e.mut=true
    | [],K,h,n,hn=>by cases h; cases hn
    | a :: l,K,h,n,hn=>by
      obtain ⟨k,l',e1,e2,rfl⟩:=zfe h
      rcases List.mem_append.1 hn with hn | hn
      · rcases zgT e1 with ⟨m,ys,rfl,hl,rfl⟩ | ⟨rfl,_⟩
        · have:=List.mem_singleton.1 hn; subst this; exact ⟨_,hl,rfl⟩
        · cases hn
      · exact absorb_mut e2 n hn
theorem zhA {s:St}:∀ {l:List A1} {K:List Nat},zdr s.ents l=some K→∀ n∈K,∃ ys,look n s.ents=some (.arr false .int ys)
  | [],K,h,n,hn=>by cases h; cases hn
  | a :: l,K,h,n,hn=>by
    obtain ⟨k,l',e1,e2,rfl⟩:=zfe h
    rcases List.mem_append.1 hn with hn | hn
    · rcases zgT e1 with ⟨m,ys,rfl,hl,rfl⟩ | ⟨rfl,_⟩
      · have:=List.mem_singleton.1 hn; subst this; exact ⟨_,hl⟩
      · cases hn
    · exact zhA e2 n hn
end
end Go.Di
open Go.RowKit (Below)
namespace Go.Di
section
variable {P:Program} {C:Bs} {w w':World} {s s':St} {X:Nat→Prop} {β β':Nat→Option Value} {a:Act} {o:Oper} {tm:Array Value}
  {t:TypeId} {x y:Operand} {i:TI} {K:Act→World→Prop} {Q:Exit→Act→World→Prop}
theorem zDj {x:Cx} {t:ST} {xs:List t.El} {vs:Array Value} (h:DeepOk x t xs (.tuple vs)) {g q m cap:Nat} (hv:vs[0]? = some (.slice (some ⟨g,q,none⟩) m cap)) :
    ∀ (i:Nat) (c:Cell),(flat t xs)[i]? = some c→∃ u b,x.w.cell? ⟨g,q+i,none⟩=some u∧vs[1+i]? = some b∧zdH x u c b:=by
  obtain ⟨s,us,h1,h2,_,_,h4⟩:=h
  cases h1
  have hs:s = .slice (some ⟨g,q,none⟩) m cap:=by simpa using hv
  subst hs
  intro i c hi
  rcases h4 with ⟨k0,_⟩ | ⟨g',cap',cur,T,k1,k2,k3,k4,k5,k6,k7⟩
  · subst k0; simp[flat] at hi
  · cases k1
    obtain ⟨u,b,q1,q2,q3⟩:=k7 i c hi
    refine ⟨u,b,by rw[Nat.zero_add,cell_of_row _ _ i cur T (0,0) k5]; exact q1,?_,q3⟩
    rw[Nat.add_comm]; simpa using q2
def zQb (n i k:Nat):Cell→A1
  | .sl .int ys => .dc n i k ys
  | c => .d c
theorem zrg {n i:Nat}:∀ {cs:List Cell} {j k:Nat} {a1:A1},(zhZ n i j cs)[k]? = some a1→∃ c,cs[k]? = some c∧a1=zQb n i (j+k) c
  | [],j,k,a1,h=>by simp[zhZ] at h
  | c :: r,j,0,a1,h=>by
    cases c with
    | sl t xs=>cases t<;>simp[zhZ] at h<;>exact ⟨_,rfl,h.symm⟩
    | _=>simp[zhZ] at h; exact ⟨_,rfl,h.symm⟩
  | c :: r,j,k+1,a1,h=>by
    have h':(zhZ n i (j+1) r)[k]? = some a1:=by
      cases c with
      | sl t xs=>cases t<;>simpa [zhZ] using h
      | _=>simpa [zhZ] using h
    obtain ⟨c',h1,h2⟩:=zrg h'
    exact ⟨c',by simpa using h1,by rw[h2]; congr 1; omega⟩
theorem zhO {n i:Nat}:∀ {cs:List Cell} {j:Nat},(zhZ n i j cs).length=cs.length
  | [],_=>rfl
  | c :: r,j=>by
    cases c with
    | sl t xs=>cases t<;>simp[zhZ,zhO (cs:=r)]
    | _=>simp[zhZ,zhO (cs:=r)]
def zQh (x:Cx) (u:Value):Cell→Value→Prop
  | .sl .int _,b=>b=u∧u.oneCell'=true
  | .sl _ _,_=>False
  | c,_=>x.rd u c
theorem zyM {x:Cx} {fr:Bool} {t:ST} {xs:List t.El} {vs:Array Value} (h:EntOk x (.deep fr t xs) (.tuple vs)) {g q m cap:Nat} (hv:vs[0]? = some (.slice (some ⟨g,q,none⟩) m cap)) :
    ∀ (i:Nat) (c:Cell),(flat t xs)[i]? = some c→∃ u b,x.w.cell? ⟨g,q+i,none⟩=some u∧vs[1+i]? = some b∧zQh x u c b:=by
  intro i c hi
  cases fr with
  | false =>
    obtain ⟨u,b,h1,h2,h3⟩:=zDj h hv i c hi
    refine ⟨u,b,h1,h2,?_⟩
    cases c with
    | sl tt ys =>
      cases tt with
      | int=>exact ⟨h3.1,by rcases h3.2 with ⟨_,ad,rfl⟩ | ⟨_,_,_,_,rfl,_⟩<;>rfl⟩
      | _=>exact h3.elim
    | tok k=>exact h3.elim
    | any=>exact h3.elim
    | _=>exact h3.2
  | true =>
    obtain ⟨s,us,e1,hcd,h4⟩:=h
    cases e1
    have hs:s = .slice (some ⟨g,q,none⟩) m cap:=by simpa using hv
    subst hs
    rcases h4 with ⟨k0,_⟩ | ⟨g',cap',k1,k2,k3,k4⟩
    · subst k0; simp[flat] at hi
    · cases k1
      obtain ⟨u,b,q1,q2,q3,q4⟩:=k4 i c hi
      refine ⟨u,b,q1,by rw[Nat.add_comm]; simpa using q2,?_⟩
      cases c with
      | sl tt ys =>
        have:=zlU hcd hi
        subst this
        obtain ⟨fp,hr,_⟩:=q3
        exact ⟨q4 ys rfl,hr.ziv⟩
      | _=>exact q3
theorem load_de (hL:zgU P t i) (ho:o.op = .load t x) (g:Gam C s X β a.tmps w) {n j off:Nat} {fr:Bool} {u:ST} {xs:List u.El} (hl:look n s.ents=some (.deep fr u xs))
    (hx:zaS (cx C s β w) (.v false [.de n j off]) (a.eval x)) (hb:off+i.zero.length≤u.size) {e:u.El} (he:xs[j]? = some e)
    (hK:Goes C X o a (.v i.agg (zbe i.zero.length (zbe off (zhZ n j 0 (u.cells e))).2).1) s K):o.wp P a w K Q:=by
  obtain ⟨a1,h1,h2,_⟩:=hx; cases h1
  obtain ⟨_,vs,gb,q,m,cap,hβ,hvs,hv⟩:=h2 fr u xs hl
  have hent:=g.ents n _ _ hl hβ
  have hw:window off i.zero.length (zhZ n j 0 (u.cells e))=some (zbe i.zero.length (zbe off (zhZ n j 0 (u.cells e))).2).1:=by
    unfold window
    have:Nat.beq (zbe i.zero.length (zbe off (zhZ n j 0 (u.cells e))).2).1.length i.zero.length=true:=by
      simp only[zg8,List.length_take,List.length_drop,zhO,zan,Nat.beq_eq]; omega
    simp only[this]
  obtain ⟨v,hr,hv'⟩:=zmM (x:=cx C s β w) hL (b:=gb) (q:=q+j * u.size) (fun k a1 ha=>by
    obtain ⟨c,h1,rfl⟩:=zrg ha
    rw[Nat.zero_add]
    have hk:k < u.size:=by have:=(List.getElem?_eq_some_iff.1 h1).1; rwa [zan] at this
    have hf:=flat_get u xs j e k he hk
    obtain ⟨z,b,hz,hb',hd⟩:=zyM hent hvs (j * u.size+k) c (by rw[hf]; exact h1)
    refine ⟨z,by rw[Nat.add_assoc]; exact hz,?_,?_⟩
    · cases c with
      | sl tt ys =>
        cases tt with
        | int =>
          intro fr' t' xs' hl'
          have hl':look n s.ents=some (.deep fr' t' xs'):=hl'
          rw[hl] at hl'; cases hl'
          refine ⟨hk,e,he,h1,vs,hβ,?_⟩
          have hb2:b=z:=hd.1
          rw[← hb2,Nat.add_assoc]; exact hb'
        | _=>exact hd.elim
      | _=>exact hd
    · cases c with
      | sl tt ys =>
        cases tt with
        | int =>
          exact hd.2
        | _=>exact hd.elim
      | _=>obtain ⟨fp,hr,_⟩:=hd; exact hr.ziv) hw
  refine zd7 (v:=v) ?_ (hK v w β g hv')
  have hr:(loadVar t ⟨gb,q+j * u.size+off,none⟩).run P w = .ok v w:=hr
  simp[execOp,ho,Instr.loadAt,Instr.sureAddr,hv,hr]
theorem zhS:∀ (K L:List Nat) (s:St),St.zaZ (K++L) s=St.zaZ L (St.zaZ K s)
  | [],_L,_s=>rfl
  | k :: K,L,s=>zhS K L (s.free k)
theorem Gam.zDl (g:Gam C s X β tm w) {n:Nat} {u:ST} {xs xs':List u.El} {vs vs':Array Value} {K:List Nat} (hl:look n s.ents=some (.deep false u xs)) (hβ:β n=some (.tuple vs))
    (hKm:∀ k∈K,∃ e,look k s.ents=some e∧e.mut=true) (hnK:n ∉ K) (h0:vs'[0]? = vs[0]?) (hlen:xs'.length=xs.length) (hpin:n % 64=63→vs'=vs)
    (hw:∀ b,b < w.heap.size→b ∉ zao (.tuple vs)→w'.heap[b]? = w.heap[b]?) (hsz:w.heap.size≤w'.heap.size) (hbel:Kp C.keep w w')
    (htop:∀ b∈zao (.tuple vs'),b∈zao (.tuple vs)∨∃ k∈K,∃ z,β k=some z∧b∈zao z)
    (hent:∀ y:Cx,y.w=w'→DeepOk y u xs' (.tuple vs')) :
    Gam C ⟨(St.zaZ (K++[dcn n]) s).env,put n (.deep false u xs') (St.zaZ (K++[dcn n]) s).ents⟩ X (upd β n (.tuple vs')) tm w':=by
  obtain ⟨f1,f2,f3,f4,f5⟩:=freeN_spec (K++[dcn n]) s
  have hnd:n≠dcn n:=by unfold dcn; omega
  have hnK':n ∉ K++[dcn n]:=by
    intro h
    rcases List.mem_append.1 h with h | h
    · exact hnK h
    · exact hnd (List.mem_singleton.1 h)
  have hPN:upd β n (.tuple vs') PN=β PN:=by
    by_cases h:PN=n
    · subst h; rw[upd_same,hβ,hpin (by decide)]
    · exact zaw _ _ h
  have htk:zd5 (upd β n (.tuple vs'))=zd5 β:=by funext i; simp only[zd5,hPN]
  have old:∀ m f,m≠n→look m (put n (.deep false u xs') (St.zaZ (K++[dcn n]) s).ents)=some f→m ∉ K++[dcn n]∧∃ f0,look m s.ents=some f0∧f.mut=f0.mut∧(f=f0∨∃ l l',f0 = .box l∧f = .box l')∧f.refs (fun k=>k ∉ K++[dcn n])∧∀ (y:Cx) v,EntOk y f0 v→EntOk y f v:=by
    intro m f hm h
    rw[za6,if_neg hm] at h
    obtain ⟨q1,f0,q2,q3,q4,q5,_,q6⟩:=f2 m f h
    exact ⟨q1,f0,q2,q3,q4,q5,q6⟩
  have hTn:∀ b∈zao (.tuple vs),Top (fun k=>look k s.ents) β b:=fun b hb=>⟨n,_,_,hl,rfl,hβ,hb⟩
  have hTnew:∀ b∈zao (.tuple vs'),Top (fun k=>look k s.ents) β b:=fun b hb=>by
    rcases htop b hb with h | ⟨k,hk,z,h1,h2⟩
    · exact hTn b h
    · obtain ⟨e,e1,e2⟩:=hKm k hk
      exact ⟨k,e,z,e1,e2,h1,h2⟩
  have hTop:∀ b,Top (fun k=>look k (put n (.deep false u xs') (St.zaZ (K++[dcn n]) s).ents)) (upd β n (.tuple vs')) b→Top (fun k=>look k s.ents) β b:=by
    rintro b ⟨m,f,z,h1,h2,h3,h4⟩
    by_cases hm:m=n
    · subst hm; rw[upd_same] at h3; cases h3; exact hTnew b h4
    · obtain ⟨_,f0,q2,q3,_⟩:=old m f hm h1
      rw[zaw _ _ hm] at h3
      exact ⟨m,f0,z,q2,by rw[← q3]; exact h2,h3,h4⟩
  have hle : Le (cx C s β w) (cx C ⟨(St.zaZ (K++[dcn n]) s).env,put n (.deep false u xs') (St.zaZ (K++[dcn n]) s).ents⟩ (upd β n (.tuple vs')) w') (fun m=>m ∉ K++[dcn n]):=by
    refine ⟨fun _ h=>h,fun b hlt hnt=>hw b hlt fun hb=>hnt (hTn b hb),hsz,fun b _ _ ht=>hTop b ht,fun m hm=>?_,fun m hm hm2 fr t ys h=>?_,fun i v h=>(congrFun htk i).trans h⟩
    · by_cases hmn:m=n
      · subst hmn
        right; right; left
        exact ⟨false,false,u,xs,xs',vs,vs',hl,by simp only[cx]; rw[za6,if_pos rfl],hlen,hβ,upd_same ..,h0⟩
      · simp only[cx]
        rw[za6,if_neg hmn,zaw _ _ hmn]
        cases hl0:look m s.ents with
        | none =>
          left
          cases hq:look m (St.zaZ (K++[dcn n]) s).ents with
          | none=>rfl
          | some f=>obtain ⟨_,f0,q,_⟩:=f2 m f hq; rw[hl0] at q; cases q
        | some e0 =>
          right; left
          refine ⟨rfl,?_⟩
          obtain ⟨f,k1,k2⟩:=f3 m e0 hl0 hm
          rw[k1]
          rcases k2 with rfl | ⟨l1,l2,rfl,rfl⟩
          · exact .inl rfl
          · exact .inr (.inl ⟨l1,l2,rfl,rfl⟩)
    · by_cases hmn:m=n
      · subst hmn
        exact absurd (List.mem_append_right _ (List.mem_singleton.2 rfl)) hm2
      · obtain ⟨_,f0,q1,_,q3,_⟩:=old m _ hmn h
        rcases q3 with rfl | ⟨l1,l2,_,q3⟩
        · exact ⟨fr,q1,zaw _ _ hmn⟩
        · cases q3
  refine ⟨f4.trans g.len,fun t av hx h=>?_,fun m f z h1 h2=>?_,?_,fun b h=>⟨(g.fresh b (hTop b h)).1,Nat.lt_of_lt_of_le (g.fresh b (hTop b h)).2 hsz⟩,fun b hk=>Nat.lt_of_lt_of_le (g.kb b hk) hsz,g.below.trans hbel,fun m z hp hlk=>?_,g.np,fun m f h=>?_,g.fx,fun π hπ=>⟨htk.trans (g.tk π hπ).1,?_⟩⟩
  · obtain ⟨a0,q1,q2,_,q3⟩:=f5 t av h
    exact hle.av q2 (q3 _ _ (g.env t a0 hx q1))
  · by_cases hm:m=n
    · subst hm
      rw[za6,if_pos rfl] at h1; cases h1
      rw[upd_same] at h2; cases h2
      exact hent _ rfl
    · obtain ⟨hmK,f0,q2,q3,_,q5,q6⟩:=old m f hm h1
      rw[zaw _ _ hm] at h2
      refine EntOk.le hle q5 (fun b hb hmu=>?_) (q6 _ z (g.ents m f0 z q2 h2))
      have hmu':f0.mut=true:=by rw[← q3]; exact hmu
      refine hw b (g.fresh b ⟨m,f0,z,q2,hmu',h2,hb⟩).2 fun hb'=>?_
      exact hm (g.uniq m n f0 _ z _ b q2 hl hmu' rfl h2 hβ hb hb')
  · -- an entry apart from n shares no block with what n has now
    have apart:∀ m f z b,m≠n→look m (put n (.deep false u xs') (St.zaZ (K++[dcn n]) s).ents)=some f→f.mut=true→upd β n (.tuple vs') m=some z→b∈zao z→b∈zao (.tuple vs')→False:=by
      intro m f z b hm h1 h2 h3 h4 h5
      obtain ⟨hmK,f0,q2,q3,_⟩:=old m f hm h1
      rw[zaw _ _ hm] at h3
      have hmu:f0.mut=true:=by rw[← q3]; exact h2
      rcases htop b h5 with h | ⟨k,hk,z',k1,k2⟩
      · exact hm (g.uniq m n f0 _ z _ b q2 hl hmu rfl h3 hβ h4 h)
      · obtain ⟨e,e1,e2⟩:=hKm k hk
        have:=g.uniq m k f0 e z z' b q2 e1 hmu e2 h3 k1 h4 k2
        subst this
        exact hmK (List.mem_append_left _ hk)
    intro m1 m2 e1 e2 z1 z2 b h1 h2 h3 h4 h5 h6 h7 h8
    by_cases hm1:m1=n<;>by_cases hm2:m2=n
    · rw[hm1,hm2]
    · subst hm1; rw[upd_same] at h5; cases h5; exact (apart m2 e2 z2 b hm2 h2 h4 h6 h8 h7).elim
    · subst hm2; rw[upd_same] at h6; cases h6; exact (apart m1 e1 z1 b hm1 h1 h3 h5 h7 h8).elim
    · obtain ⟨_,g1,q1,q2,_⟩:=old m1 e1 hm1 h1
      obtain ⟨_,g2,q3,q4,_⟩:=old m2 e2 hm2 h2
      rw[zaw _ _ hm1] at h5; rw[zaw _ _ hm2] at h6
      exact g.uniq m1 m2 g1 g2 z1 z2 b q1 q3 (by rw[← q2]; exact h3) (by rw[← q4]; exact h4) h5 h6 h7 h8
  · by_cases hm:m=n
    · subst hm
      have h63:=(g.np m (by rw[hp]; rfl)).1
      rw[upd_same,hpin h63,← hβ]
      exact g.pin m z hp (by rw[hl]; rfl)
    · rw [zaw _ _ hm]
      rw[za6,if_neg hm] at hlk
      cases hq:look m (St.zaZ (K++[dcn n]) s).ents with
      | none=>rw[hq] at hlk; cases hlk
      | some f =>
        obtain ⟨_,f0,q,_⟩:=f2 m f hq
        exact g.pin m z hp (by rw[q]; rfl)
  · by_cases hm:m=n
    · subst hm; rw[upd_same]; rfl
    · obtain ⟨_,f0,q,_⟩:=old m f hm h
      rw[zaw _ _ hm]; exact g.bs m f0 q
  · cases h:look PN (put n (.deep false u xs') (St.zaZ (K++[dcn n]) s).ents) with
    | none=>rfl
    | some e =>
      by_cases hm:PN=n
      · subst hm; rw[(g.tk π hπ).2] at hl; cases hl
      · obtain ⟨_,f0,q,_⟩:=old PN e hm h
        rw[(g.tk π hπ).2] at q; cases q
end
end Go.Di
open Go.RowKit (Below)
namespace Go.Di
def C1T.still:C1T→Prop
  | .sp _ | .fn _ _=>True
  | _=>False
theorem zfV:∀ {l:List C1T} {x:Tys (ksL l)} {a:A1},(∀ c∈l,¬ c.still)→a∈encL l x→a = .bot∨(∃ c y,C1T.d c∈l∧a = .d (c.cell y))∨(∃ n,C1T.own n∈l∧a = .own n)∨(∃ n o,C1T.lp n o∈l∧a = .lp n o)∨(∃ n lo k,C1T.win n∈l∧a = .win n lo k)∨∃ n,C1T.dp n∈l∧a = .dp n
  | .d c :: r,x,a,hs,h=>by
    rcases List.mem_cons.1 h with rfl | h
    · exact .inr (.inl ⟨c,x.1,List.mem_cons_self ..,rfl⟩)
    · rcases zfV (l:=r) (fun c hc=>hs c (List.mem_cons_of_mem _ hc)) h with h | ⟨c,y,h1,h2⟩ | ⟨n,h1,h2⟩ | ⟨n,o,h1,h2⟩ | ⟨n,lo,k,h1,h2⟩ | ⟨n,h1,h2⟩
      · exact .inl h
      · exact .inr (.inl ⟨c,y,List.mem_cons_of_mem _ h1,h2⟩)
      · exact .inr (.inr (.inl ⟨n,List.mem_cons_of_mem _ h1,h2⟩))
      · exact .inr (.inr (.inr (.inl ⟨n,o,List.mem_cons_of_mem _ h1,h2⟩)))
      · exact .inr (.inr (.inr (.inr (.inl ⟨n,lo,k,List.mem_cons_of_mem _ h1,h2⟩))))
      · exact .inr (.inr (.inr (.inr (.inr ⟨n,List.mem_cons_of_mem _ h1,h2⟩))))
  | .bot :: r,x,a,hs,h=>by
    rcases List.mem_cons.1 h with rfl | h
    · exact .inl rfl
    · rcases zfV (l:=r) (fun c hc=>hs c (List.mem_cons_of_mem _ hc)) h with h | ⟨c,y,h1,h2⟩ | ⟨n,h1,h2⟩ | ⟨n,o,h1,h2⟩ | ⟨n,lo,k,h1,h2⟩ | ⟨n,h1,h2⟩
      · exact .inl h
      · exact .inr (.inl ⟨c,y,List.mem_cons_of_mem _ h1,h2⟩)
      · exact .inr (.inr (.inl ⟨n,List.mem_cons_of_mem _ h1,h2⟩))
      · exact .inr (.inr (.inr (.inl ⟨n,o,List.mem_cons_of_mem _ h1,h2⟩)))
      · exact .inr (.inr (.inr (.inr (.inl ⟨n,lo,k,List.mem_cons_of_mem _ h1,h2⟩))))
      · exact .inr (.inr (.inr (.inr (.inr ⟨n,List.mem_cons_of_mem _ h1,h2⟩))))
  | .own m :: r,x,a,hs,h=>by
    rcases List.mem_cons.1 h with rfl | h
    · exact .inr (.inr (.inl ⟨m,List.mem_cons_self ..,rfl⟩))
    · rcases zfV (l:=r) (fun c hc=>hs c (List.mem_cons_of_mem _ hc)) h with h | ⟨c,y,h1,h2⟩ | ⟨n,h1,h2⟩ | ⟨n,o,h1,h2⟩ | ⟨n,lo,k,h1,h2⟩ | ⟨n,h1,h2⟩
      · exact .inl h
      · exact .inr (.inl ⟨c,y,List.mem_cons_of_mem _ h1,h2⟩)
      · exact .inr (.inr (.inl ⟨n,List.mem_cons_of_mem _ h1,h2⟩))
      · exact .inr (.inr (.inr (.inl ⟨n,o,List.mem_cons_of_mem _ h1,h2⟩)))
      · exact .inr (.inr (.inr (.inr (.inl ⟨n,lo,k,List.mem_cons_of_mem _ h1,h2⟩))))
      · exact .inr (.inr (.inr (.inr (.inr ⟨n,List.mem_cons_of_mem _ h1,h2⟩))))
  | .lp m q :: r,x,a,hs,h=>by
    rcases List.mem_cons.1 h with rfl | h
    · exact .inr (.inr (.inr (.inl ⟨m,q,List.mem_cons_self ..,rfl⟩)))
    · rcases zfV (l:=r) (fun c hc=>hs c (List.mem_cons_of_mem _ hc)) h with h | ⟨c,y,h1,h2⟩ | ⟨n,h1,h2⟩ | ⟨n,o,h1,h2⟩ | ⟨n,lo,k,h1,h2⟩ | ⟨n,h1,h2⟩
      · exact .inl h
      · exact .inr (.inl ⟨c,y,List.mem_cons_of_mem _ h1,h2⟩)
      · exact .inr (.inr (.inl ⟨n,List.mem_cons_of_mem _ h1,h2⟩))
      · exact .inr (.inr (.inr (.inl ⟨n,o,List.mem_cons_of_mem _ h1,h2⟩)))
      · exact .inr (.inr (.inr (.inr (.inl ⟨n,lo,k,List.mem_cons_of_mem _ h1,h2⟩))))
      · exact .inr (.inr (.inr (.inr (.inr ⟨n,List.mem_cons_of_mem _ h1,h2⟩))))
  | .win m :: r,x,a,hs,h=>by
    rcases List.mem_cons.1 h with rfl | h
    · exact .inr (.inr (.inr (.inr (.inl ⟨m,x.1,x.2.1,List.mem_cons_self ..,rfl⟩))))
    · rcases zfV (l:=r) (fun c hc=>hs c (List.mem_cons_of_mem _ hc)) h with h | ⟨c,y,h1,h2⟩ | ⟨n,h1,h2⟩ | ⟨n,o,h1,h2⟩ | ⟨n,lo,k,h1,h2⟩ | ⟨n,h1,h2⟩
      · exact .inl h
      · exact .inr (.inl ⟨c,y,List.mem_cons_of_mem _ h1,h2⟩)
      · exact .inr (.inr (.inl ⟨n,List.mem_cons_of_mem _ h1,h2⟩))
      · exact .inr (.inr (.inr (.inl ⟨n,o,List.mem_cons_of_mem _ h1,h2⟩)))
      · exact .inr (.inr (.inr (.inr (.inl ⟨n,lo,k,List.mem_cons_of_mem _ h1,h2⟩))))
      · exact .inr (.inr (.inr (.inr (.inr ⟨n,List.mem_cons_of_mem _ h1,h2⟩))))
  | .dp m :: r,x,a,hs,h=>by
    rcases List.mem_cons.1 h with rfl | h
    · exact .inr (.inr (.inr (.inr (.inr ⟨m,List.mem_cons_self ..,rfl⟩))))
    · rcases zfV (l:=r) (fun c hc=>hs c (List.mem_cons_of_mem _ hc)) h with h | ⟨c,y,h1,h2⟩ | ⟨n,h1,h2⟩ | ⟨n,o,h1,h2⟩ | ⟨n,lo,k,h1,h2⟩ | ⟨n,h1,h2⟩
      · exact .inl h
      · exact .inr (.inl ⟨c,y,List.mem_cons_of_mem _ h1,h2⟩)
      · exact .inr (.inr (.inl ⟨n,List.mem_cons_of_mem _ h1,h2⟩))
      · exact .inr (.inr (.inr (.inl ⟨n,o,List.mem_cons_of_mem _ h1,h2⟩)))
      · exact .inr (.inr (.inr (.inr (.inl ⟨n,lo,k,List.mem_cons_of_mem _ h1,h2⟩))))
      · exact .inr (.inr (.inr (.inr (.inr ⟨n,List.mem_cons_of_mem _ h1,h2⟩))))
  | .sp ks :: r,x,a,hs,h=>absurd trivial (hs _ (List.mem_cons_self ..))
  | .fn f kss :: r,x,a,hs,h=>absurd trivial (hs _ (List.mem_cons_self ..))
def zxI (x y:Cx) (f:Nat→Nat) (a:A1):Prop:=∀ v,A1Ok x a v→A1Ok y (a.ren f) v
theorem zcm.go {x y:Cx} {f:Nat→Nat}:∀ {l:List A1} {vs:List Value},(∀ a∈l,zxI x y f a)→zcm x l vs→zcm y (zMW f l) vs
  | [],[],_,_=>trivial
  | a :: _l,v :: _vs,h,⟨h1,h2,h3⟩=>⟨h a (List.mem_cons_self ..) v h1,h2,zcm.go (fun b hb=>h b (List.mem_cons_of_mem _ hb)) h3⟩
  | [],_ :: _,_,h=>h.elim
  | _ :: _,[],_,h=>h.elim
theorem VOk.go {x y:Cx} {f:Nat→Nat} {g:Bool} {l:List A1} {v:Value} (h:∀ a∈l,zxI x y f a) (hv:VOk x g l v):VOk y g (zMW f l) v:=by
  cases g with
  | true=>obtain ⟨vs,h1,h2⟩:=hv; exact ⟨vs,h1,h2.go h⟩
  | false =>
    obtain ⟨a,rfl,h2,h3⟩:=hv
    refine ⟨a.ren f,rfl,h a (List.mem_cons_self ..) v h2,?_⟩
    rcases h3 with rfl | h3
    · exact .inl rfl
    · exact .inr h3
theorem zJh {x y:Cx} {f:Nat→Nat}:∀ (res:List (Bool × List C1T)) (z:Tys (ksS (res.map some))) (vs:List Value),
    (∀ p∈res,∀ zz:Tys (ksL p.2),∀ a∈encL p.2 zz,zxI x y f a)→(encS (res.map some) z).length=vs.length →
    (∀ (j:Nat) av v,(encS (res.map some) z)[j]? = some av→vs[j]? = some v→zaS x av v)→zkC y (zEz f (encS (res.map some) z)) vs
  | [],z,[],_,_,_=>trivial
  | (b,l) :: r,z,v :: vs,h,hl,hv=>by
    have e:encS (List.map some ((b,l) :: r)) z = .v b (encL l (Tys.fst (ksL l) (ksS (r.map some)) z)) :: encS (r.map some) (Tys.snd (ksL l) (ksS (r.map some)) z):=rfl
    rw[e] at hl hv
    have h0:=hv 0 _ v rfl rfl
    refine ⟨VOk.go (fun a ha=>h (b,l) (List.mem_cons_self ..) _ a ha) h0,?_⟩
    exact zJh r (Tys.snd (ksL l) (ksS (r.map some)) z) vs (fun p hp=>h p (List.mem_cons_of_mem _ hp)) (by simpa using hl)
      (fun j av v h1 h2=>hv (j+1) av v (by simpa using h1) (by simpa using h2))
  | [],z,_ :: _,_,hl,_=>by
    have e:encS (List.map some ([]:List (Bool × List C1T))) z=[]:=rfl
    rw[e] at hl; simp at hl
  | (b,l) :: r,z,[],_,hl,_=>by
    have e:encS (List.map some ((b,l) :: r)) z = .v b (encL l (Tys.fst (ksL l) (ksS (r.map some)) z)) :: encS (r.map some) (Tys.snd (ksL l) (ksS (r.map some)) z):=rfl
    rw[e] at hl; simp at hl
theorem zmP {f:Nat→Nat}:∀ (res:List (Bool × List C1T)) (z:Tys (ksS (res.map some))),(zEz f (encS (res.map some) z)).length=res.length
  | [],_=>rfl
  | (b,l) :: r,z=>by
    show (zEz f (encS (r.map some) _)).length+1=r.length+1
    rw[zmP r]
theorem pack_ok {y:Cx} {tup:Bool} {ps:List (Bool × List A1)} {vs:Array Value} (h:zkC y ps vs.toList) (ht:tup=false→ps.length=1):zaS y (zto tup ps) (zlW tup vs):=by
  cases tup with
  | true =>
    have:zto true ps = .tup ps:=by unfold zto; rfl
    rw[this]; exact ⟨vs,rfl,h⟩
  | false =>
    have hl:=ht rfl
    match ps,hl with
    | [(b, l)],_ =>
      cases hv:vs.toList with
      | nil=>rw[hv] at h; exact h.elim
      | cons v r =>
        rw[hv] at h
        have hd:vs.getD 0 undef=v:=by
          have:vs[0]? = some v:=by rw[← Array.getElem?_toList,hv]; rfl
          simp[Array.getD_eq_getD_getElem?,this]
        show VOk y b l (vs.getD 0 undef)
        rw[hd]; exact h.1
theorem zvo {ok:List Nat}:∀ {l:List C1T},zmz ok l=true→(∀ n,C1T.own n∈l→n∈ok)∧(∀ n o,C1T.lp n o∈l→n∈ok)∧(∀ n,C1T.win n∈l→n∈ok)∧(∀ n,C1T.dp n∈l→n∈ok)∧∀ c∈l,¬ c.still
  | [],_=>⟨(fun n h=>by cases h),(fun n o h=>by cases h),(fun n h=>by cases h),(fun n h=>by cases h),(fun c h=>by cases h)⟩
  | c :: r,h=>by
    have rest:zmz ok r=true:=by
      cases c<;>first | exact h | (cases h; done) | (simp only[zmz] at h; split at h<;>first | exact h | cases h)
    have hst:¬ c.still:=by
      cases c<;>first | exact id | (cases h; done)
    have here:∀ n,(c = .own n∨(∃ o,c = .lp n o)∨c = .win n∨c = .dp n)→n∈ok:=by
      intro n hn
      rcases hn with rfl | ⟨o,rfl⟩ | rfl | rfl
      all_goals
        simp only[zmz] at h
        split at h
        · rename_i hb; exact zaA.1 hb
        · cases h
    obtain ⟨r1,r2,r3,r4,r5⟩:=zvo rest
    refine ⟨fun n hm=>?_,fun n o hm=>?_,fun n hm=>?_,fun n hm=>?_,fun c' hm=>?_⟩
    · rcases List.mem_cons.1 hm with e | hm
      · exact here n (.inl e.symm)
      · exact r1 n hm
    · rcases List.mem_cons.1 hm with e | hm
      · exact here n (.inr (.inl ⟨o,e.symm⟩))
      · exact r2 n o hm
    · rcases List.mem_cons.1 hm with e | hm
      · exact here n (.inr (.inr (.inl e.symm)))
      · exact r3 n hm
    · rcases List.mem_cons.1 hm with e | hm
      · exact here n (.inr (.inr (.inr e.symm)))
      · exact r4 n hm
    · rcases List.mem_cons.1 hm with e | hm
      · rw[e]; exact hst
      · exact r5 c' hm
theorem zvn {ok:List Nat}:∀ {l:List (Bool × List C1T)},zET ok l=true→∀ p∈l,zmz ok p.2=true
  | (b,m) :: r,h,p,hp=>by
    unfold zET at h
    split at h
    · rename_i hb
      rcases List.mem_cons.1 hp with rfl | hp
      · exact hb
      · exact zvn h p hp
    · cases h
theorem zvp {ok:List Nat}:∀ {l:List (Nat × ET)},zth ok l=true→∀ n m,(n,ET.box m)∈l→zmz ok m=true
  | (k,e) :: r,h,n,m,hp=>by
    have rest:zth ok r=true:=by
      cases e<;>first | exact h | (simp only[zth] at h; split at h<;>first | exact h | cases h)
    rcases List.mem_cons.1 hp with hp | hp
    · cases hp
      simp only[zth] at h
      split at h
      · assumption
      · cases h
    · exact zvp rest n m hp
theorem znS:∀ {l:List (Bool × List C1T)},zjQ l=false→∀ p∈l,∀ c∈p.2,c.shares=false
  | (b,m) :: r,h,p,hp,c,hc=>by
    simp only[zjQ,Bool.or_eq_false_iff] at h
    rcases List.mem_cons.1 hp with rfl | hp
    · have:=h.1
      rw[List.any_eq_false] at this
      simpa using this c hc
    · exact znS h.2 p hp c hc
theorem zfH:∀ {l:List (Nat × ET)},zfO l=false→∀ n e,(n,e)∈l→(∀ m,e = .box m→∀ c∈m,c.shares=false)∧∀ fr t,e = .arr fr t→fr=false∧t.deep=false
  | (k,.box m) :: r,h,n,e,hp=>by
    simp only[zfO,Bool.or_eq_false_iff] at h
    rcases List.mem_cons.1 hp with hp | hp
    · cases hp
      refine ⟨fun m' e c hc=>?_,fun fr t e=>by cases e⟩
      cases e
      have:=h.1
      rw[List.any_eq_false] at this
      simpa using this c hc
    · exact zfH h.2 n e hp
  | (k,.arr fr t) :: r,h,n,e,hp=>by
    simp only[zfO,Bool.or_eq_false_iff] at h
    rcases List.mem_cons.1 hp with hp | hp
    · cases hp
      exact ⟨(fun m e=>by cases e),(fun fr' t' e=>by cases e; exact ⟨h.1,h.2.1⟩)⟩
    · exact zfH h.2.2 n e hp
  | (k,.deep t) :: r,h,n,e,hp=>by
    rcases List.mem_cons.1 hp with hp | hp
    · cases hp
      exact ⟨(fun m e=>by cases e),(fun fr' t' e=>by cases e)⟩
    · exact zfH (l:=r) h n e hp
  | (k,.pool) :: r,h,n,e,hp=>by
    rcases List.mem_cons.1 hp with hp | hp
    · cases hp
      exact ⟨(fun m e=>by cases e),(fun fr' t' e=>by cases e)⟩
    · exact zfH (l:=r) h n e hp
theorem zfW {n:Nat} {e:Ent}:∀ {l:List (Nat × ET)} {x:Tys (ksE l)},(∀ k,(k,ET.pool) ∉ l)→(n,e)∈zgy l x→(∃ m z,(n,ET.box m)∈l∧e = .box (encL m z))∨(∃ fr t xs,(n,ET.arr fr t)∈l∧e = .arr fr t xs)∨∃ t xs,(n,ET.deep t)∈l∧e = .deep false t xs
  | (k,.box m) :: r,x,hp,h=>by
    rcases List.mem_cons.1 h with h | h
    · cases h; exact .inl ⟨m,_,List.mem_cons_self ..,rfl⟩
    · rcases zfW (l:=r) (fun k hk=>hp k (List.mem_cons_of_mem _ hk)) h with ⟨m',z,h1,h2⟩ | ⟨fr,t,xs,h1,h2⟩ | ⟨t,xs,h1,h2⟩
      · exact .inl ⟨m',z,List.mem_cons_of_mem _ h1,h2⟩
      · exact .inr (.inl ⟨fr,t,xs,List.mem_cons_of_mem _ h1,h2⟩)
      · exact .inr (.inr ⟨t,xs,List.mem_cons_of_mem _ h1,h2⟩)
  | (k,.arr fr t) :: r,x,hp,h=>by
    rcases List.mem_cons.1 h with h | h
    · cases h; exact .inr (.inl ⟨fr,t,x.1,List.mem_cons_self ..,rfl⟩)
    · rcases zfW (l:=r) (fun k hk=>hp k (List.mem_cons_of_mem _ hk)) h with ⟨m',z,h1,h2⟩ | ⟨fr,t,xs,h1,h2⟩ | ⟨t,xs,h1,h2⟩
      · exact .inl ⟨m',z,List.mem_cons_of_mem _ h1,h2⟩
      · exact .inr (.inl ⟨fr,t,xs,List.mem_cons_of_mem _ h1,h2⟩)
      · exact .inr (.inr ⟨t,xs,List.mem_cons_of_mem _ h1,h2⟩)
  | (k,.deep t) :: r,x,hp,h=>by
    rcases List.mem_cons.1 h with h | h
    · cases h; exact .inr (.inr ⟨t,x.1,List.mem_cons_self ..,rfl⟩)
    · rcases zfW (l:=r) (fun k hk=>hp k (List.mem_cons_of_mem _ hk)) h with ⟨m',z,h1,h2⟩ | ⟨fr,t,xs,h1,h2⟩ | ⟨t,xs,h1,h2⟩
      · exact .inl ⟨m',z,List.mem_cons_of_mem _ h1,h2⟩
      · exact .inr (.inl ⟨fr,t,xs,List.mem_cons_of_mem _ h1,h2⟩)
      · exact .inr (.inr ⟨t,xs,List.mem_cons_of_mem _ h1,h2⟩)
  | (k,.pool) :: r,x,hp,h=>absurd (List.mem_cons_self ..) (hp k)
end Go.Di
open Go.RowKit (Below)
namespace Go.Di
section
variable {P:Program} {C:Bs} {w w':World} {s s':St} {X:Nat→Prop} {β β2:Nat→Option Value} {tm:Array Value}
theorem zxD {a b:Bool} (h:(a && b)=true):a=true∧b=true:=by cases a<;>cases b<;>simp_all
theorem zA4 {l m:List Nat} (h:zvv l m=true):∀ a∈l,a ∉ m:=by
  induction l with
  | nil=>intro a ha; cases ha
  | cons b r ih =>
    unfold zvv at h
    split at h
    · cases h
    · rename_i hb
      intro a ha hm
      rcases List.mem_cons.1 ha with rfl | ha
      · rw[zaA.2 hm] at hb; cases hb
      · exact ih h a ha hm
theorem zgz {L:List (Nat × Nat)} {p:Nat} {t:ST}:∀ {l:List (Nat × ET)},(p,ET.deep t)∈l→dcn (zaC L p)∈zhJ L l
  | (n,.deep u) :: r,h=>by
    rcases List.mem_cons.1 h with h | h
    · cases h; exact List.mem_cons_self ..
    · exact List.mem_cons_of_mem _ (zgz h)
  | (n,.box m) :: r,h=>by
    rcases List.mem_cons.1 h with h | h
    · cases h
    · exact zgz (l:=r) h
  | (n,.arr fr u) :: r,h=>by
    rcases List.mem_cons.1 h with h | h
    · cases h
    · exact zgz (l:=r) h
  | (n,.pool) :: r,h=>by
    rcases List.mem_cons.1 h with h | h
    · cases h
    · exact zgz (l:=r) h
theorem call_out {avs:List AV} {args vs:Array Value} {sg:Sig} {d:Nat} {xin:Tys sg.tin.ks} {y:Tys sg.zhH.ks}
    (g:Gam C s X β tm w) (ga:Gam C ⟨avs,s.ents⟩ NoX β args w) (h:Wk sg.shares ⟨avs,s.ents⟩ (sg.tin.enc xin) (zaC (sg.tin.src ⟨avs,s.ents⟩)))
    (hfine:sg.fine=true) (hports:ztl sg (sg.tin.src ⟨avs,s.ents⟩) d=true) (htup:sg.tup=false→sg.res.length=1)
    (hk:Kp (zpW sg.shares C ⟨avs,s.ents⟩ (sg.tin.enc xin) (zaC (sg.tin.src ⟨avs,s.ents⟩)) β w).keep w w')
    (G:Gam (zpW sg.shares C ⟨avs,s.ents⟩ (sg.tin.enc xin) (zaC (sg.tin.src ⟨avs,s.ents⟩)) β w) (sg.zhH.enc y) NoX β2 vs w') :
    ∃ β3,Gam C (zfd s d sg (sg.tin.src ⟨avs,s.ents⟩) y).2 X β3 tm w' ∧
      zaS (cx C (zfd s d sg (sg.tin.src ⟨avs,s.ents⟩) y).2 β3 w') (zfd s d sg (sg.tin.src ⟨avs,s.ents⟩) y).1 (zlW sg.tup vs):=by
  generalize hL:sg.tin.src ⟨avs,s.ents⟩=L at *
  obtain ⟨hPN0,hfine⟩:=zxD hfine
  obtain ⟨nd,hf2⟩:=zxD hfine
  obtain ⟨hpinIn,hf3⟩:=zxD hf2
  obtain ⟨hmut,hf4⟩:=zxD hf3
  obtain ⟨hrefP,hrefE⟩:=zxD hf4
  obtain ⟨hnames,hstirB⟩:=zxD hports
  have hnames:=ze9 hnames
  have hpi:∀ k,(k,ET.pool) ∉ sg.ins:=fun k hk=>by have:=znx hmut hk; cases this
  have hPNo:PN ∉ namesT sg.outs:=fun h=>by
    have:=(zxD hPN0).2
    rw[zaA.2 h] at this; cases this
  have hpo:∀ k,(k,ET.pool) ∉ sg.outs:=fun k hk=>by
    rcases pinIn_ok hpinIn hk with ⟨_,⟨_,_,_,h0⟩ | ⟨_,_,h0⟩ | ⟨_,_,h0⟩⟩ | ⟨_,_,_,h0⟩
    · cases h0
    · cases h0
    · cases h0
    · exact h0 rfl
  -- names
  let f:=zci L d
  let O:=(sg.zhH.enc y).ents
  have hO:O=zgy sg.outs (Tys.snd (ksS (sg.res.map some)) (ksE sg.outs) y):=rfl
  have hnO:names O=namesT sg.outs:=zeR _ _
  have hndO:(names O).Nodup:=by rw[hnO]; exact ze9 nd
  let l:=zJk f O
  have hnl:names l=(namesT sg.outs).map f:=by show names (zJk f O)=_; rw[zkK,hnO]
  have hndl:(names l).Nodup:=by rw[hnl]; exact hnames
  let K:=(zjH L (namesT sg.outs) sg.ins++zei f sg.outs)++zhJ L sg.ins
  have finj:∀ q q',q∈namesT sg.outs→q'∈namesT sg.outs→f q=f q'→q=q':=by
    have key:∀ (l:List Nat),(l.map f).Nodup→∀ q q',q∈l→q'∈l→f q=f q'→q=q':=by
      intro l
      induction l with
      | nil=>intro _ q _ hq; cases hq
      | cons a r ih =>
        intro hn q q' hq hq' he
        simp only[List.map_cons,List.nodup_cons] at hn
        rcases List.mem_cons.1 hq with e1 | e1<;>rcases List.mem_cons.1 hq' with e2 | e2
        · rw[e1,e2]
        · subst e1; exact absurd (List.mem_map.2 ⟨q',e2,he.symm⟩) hn.1
        · subst e2; exact absurd (List.mem_map.2 ⟨q,e1,he⟩) hn.1
        · exact ih hn.2 q q' e1 e2 he
    exact key _ hnames
  have fFresh:∀ q,q % 64≠63→f q=nm d+q:=by
    intro q hq
    have hb:Nat.beq (q % 64) 63=false:=by rw[Bool.eq_false_iff]; intro hb; exact hq (Nat.eq_of_beq_eq_true hb)
    show zci L d q=_
    unfold zci; rw[hb]
  have fPin:∀ q,q % 64=63→f q=zaC L q:=by
    intro q hq
    show zci L d q=_
    unfold zci; rw[hq]
  have insMut:∀ p t e,(p,t)∈sg.ins→look p (sg.tin.enc xin).ents=some e→e.mut=true:=by
    intro p t e hp he
    have he':=zvB (l:=(sg.tin.enc xin).ents) he
    rcases zfW (l:=sg.ins) hpi he' with ⟨m,z,_,rfl⟩ | ⟨fr,t',xs,h1,rfl⟩ | ⟨t',xs,h1,rfl⟩
    · rfl
    · have:=znx hmut h1
      cases fr<;>simp_all [ET.mut,Ent.mut]
    · rfl
  have inLook:∀ p t,(p,t)∈sg.ins→∃ e,look p (sg.tin.enc xin).ents=some e:=by
    intro p t hp
    have:p∈names (sg.tin.enc xin).ents:=by
      have hh:names (sg.tin.enc xin).ents=namesT sg.ins:=zeR _ _
      rw[hh]; exact za0 hp
    have key:∀ (l:List (Nat × Ent)),p∈names l→∃ e,look p l=some e:=by
      intro l
      induction l with
      | nil=>intro h; cases h
      | cons q r ih =>
        intro h
        rw[show q=(q.1,q.2) from rfl,zaq]
        by_cases hq:p=q.1
        · exact ⟨q.2,by rw[if_pos hq]⟩
        · rw[if_neg hq]
          simp only[names,List.map_cons,List.mem_cons] at h
          exact ih (h.resolve_left hq)
    exact key _ this
  -- a block of a port's entry belongs to a name that goes or comes back
  have portBlock:∀ b,Top (fun n=>look n (sg.tin.enc xin).ents) (fun n=>β (zaC L n)) b→∀ m e u,look m s.ents=some e→e.mut=true→β m=some u→b∈zao u→m∈K∨m∈names l:=by
    rintro b ⟨p,e',v',h1,h2,h3,h4⟩ m e u k1 k2 k3 k4
    obtain ⟨e0,q1,q2⟩:=h.mut h1 h2
    have hm:m=zaC L p:=ga.uniq m (zaC L p) e e0 u v' b k1 q1 k2 q2 k3 h3 k4 h4
    obtain ⟨t,ht⟩:=zgg (l:=sg.ins) h1
    rcases zoh (src:=L) (outs:=namesT sg.outs) ht with ⟨hp1,hp2⟩ | hg
    · right
      rw[hnl,hm,← fPin p hp1]
      exact List.mem_map.2 ⟨p,hp2,rfl⟩
    · left; rw[hm]; exact List.mem_append_left _ (List.mem_append_left _ hg)
  have topSub:∀ b,Top (fun n=>look n (sg.tin.enc xin).ents) (fun n=>β (zaC L n)) b→Top (fun n=>look n s.ents) β b:=fun b hb=>h.top hb
  -- in-out entries
  have inout : ∀ q t,(q,t)∈sg.outs→q % 64=63→∃ ti ein e,(q,ti)∈sg.ins∧look q (sg.tin.enc xin).ents=some ein∧look (zaC L q) s.ents=some e∧ein.mut=true ∧
      ((∃ l1 l2 l3,t = .box l1∧ein = .box l2∧e = .box l3)∨(∃ u xs,t = .arr false u∧ein = .arr false u xs∧e = .arr false u xs)∨∃ u xs,t = .deep u∧ein = .deep false u xs∧e = .deep false u xs):=by
    intro q t hq h63
    rcases pinIn_ok hpinIn hq with ⟨_,hc⟩ | ⟨hne,_⟩
    · have hfi : ∃ ti,znI q sg.ins=some ti∧((∃ l1 l2,ti = .box l1∧t = .box l2)∨(∃ u,ti = .arr false u∧t = .arr false u)∨∃ u,ti = .deep u∧t = .deep u):=by
        rcases hc with ⟨l1,l2,h1,h2⟩ | ⟨u,h1,h2⟩ | ⟨u,h1,h2⟩
        · exact ⟨_,h1,.inl ⟨l1,l2,rfl,h2⟩⟩
        · exact ⟨_,h1,.inr (.inl ⟨u,rfl,h2⟩)⟩
        · exact ⟨_,h1,.inr (.inr ⟨u,rfl,h2⟩)⟩
      obtain ⟨ti,h1,h2⟩:=hfi
      have hti:ti ≠ .pool:=by rintro rfl; exact hpi q (zgL h1)
      -- the entry that this name finds first
      have key : ∀ (ins:List (Nat × ET)) (z:Tys (ksE ins)),znI q ins=some ti→∃ ein,look q (zgy ins z)=some ein∧((∃ l1 l2,ti = .box l1∧ein = .box l2)∨(∃ fr u xs,ti = .arr fr u∧ein = .arr fr u xs)∨∃ u xs,ti = .deep u∧ein = .deep false u xs):=by
        intro ins
        induction ins with
        | nil=>intro z h; cases h
        | cons p r ih =>
          intro z hfe
          obtain ⟨k,e⟩:=p
          unfold znI at hfe
          cases hb:Nat.beq q k with
          | true =>
            rw[hb] at hfe; cases hfe
            have:=Nat.eq_of_beq_eq_true hb; subst this
            cases ti with
            | pool=>exact absurd rfl hti
            | box m=>exact ⟨_,by show look q ((q,_) :: _)=_; rw[zaq,if_pos rfl],.inl ⟨m,_,rfl,rfl⟩⟩
            | arr fr u=>exact ⟨.arr fr u z.1,by show look q ((q,_) :: _)=_; rw[zaq,if_pos rfl],.inr (.inl ⟨fr,u,z.1,rfl,rfl⟩)⟩
            | deep u=>exact ⟨.deep false u z.1,by show look q ((q,_) :: _)=_; rw[zaq,if_pos rfl],.inr (.inr ⟨u,z.1,rfl,rfl⟩)⟩
          | false =>
            rw[hb] at hfe
            have hne:q≠k:=by rintro rfl; simp at hb
            cases e with
            | box m =>
              obtain ⟨ein,k1,k2⟩:=ih (Tys.snd (ksL m) (ksE r) z) hfe
              exact ⟨ein,by show look q ((k,_) :: _)=_; rw[zaq,if_neg hne]; exact k1,k2⟩
            | arr fr u =>
              obtain ⟨ein,k1,k2⟩:=ih z.2 hfe
              exact ⟨ein,by show look q ((k,_) :: _)=_; rw[zaq,if_neg hne]; exact k1,k2⟩
            | deep u =>
              obtain ⟨ein,k1,k2⟩:=ih z.2 hfe
              exact ⟨ein,by show look q ((k,_) :: _)=_; rw[zaq,if_neg hne]; exact k1,k2⟩
            | pool =>
              obtain ⟨ein,k1,k2⟩:=ih z.2 hfe
              exact ⟨ein,by show look q ((k,_) :: _)=_; rw[zaq,if_neg hne]; exact k1,k2⟩
      obtain ⟨ein,k1,k2⟩:=key sg.ins _ h1
      have k1':look q (sg.tin.enc xin).ents=some ein:=k1
      obtain ⟨e,k3,k4⟩:=h.ents q ein k1'
      refine ⟨ti,ein,e,zgL h1,k1',k3,insMut q ti ein (zgL h1) k1',?_⟩
      rcases h2 with ⟨l1,l2,rfl,rfl⟩ | ⟨u,rfl,rfl⟩ | ⟨u,rfl,rfl⟩
      · rcases k2 with ⟨l3,l4,_,rfl⟩ | ⟨fr,u,xs,h0,_⟩ | ⟨u,xs,h0,_⟩
        · rcases k4 with ⟨l5,l6,rfl,_,_⟩ | ⟨fr,u,xs,_,h0⟩ | ⟨u,xs,_,h0⟩ | ⟨_,_,h0⟩
          · exact .inl ⟨_,_,_,rfl,rfl,rfl⟩
          · cases h0
          · cases h0
          · cases h0
        · cases h0
        · cases h0
      · rcases k2 with ⟨l3,l4,h0,_⟩ | ⟨fr,u',xs,h0,rfl⟩ | ⟨u',xs,h0,_⟩
        · cases h0
        · cases h0
          rcases k4 with ⟨l5,l6,_,h0,_⟩ | ⟨fr,u',xs',rfl,h0⟩ | ⟨u',xs',_,h0⟩ | ⟨_,_,h0⟩
          · cases h0
          · cases h0; exact .inr (.inl ⟨u,xs,rfl,rfl,rfl⟩)
          · cases h0
          · cases h0
        · cases h0
      · rcases k2 with ⟨l3,l4,h0,_⟩ | ⟨fr,u',xs,h0,_⟩ | ⟨u',xs,h0,rfl⟩
        · cases h0
        · cases h0
        · cases h0
          rcases k4 with ⟨l5,l6,_,h0,_⟩ | ⟨fr,u',xs',_,h0⟩ | ⟨u',xs',rfl,h0⟩ | ⟨_,_,h0⟩
          · cases h0
          · cases h0
          · cases h0; exact .inr (.inr ⟨u,xs,rfl,rfl,rfl⟩)
          · cases h0
    · exact absurd h63 hne
  have pinVal:∀ q t,(q,t)∈sg.outs→q % 64=63→β2 q=β (f q):=by
    intro q t hq h63
    obtain ⟨ti,ein,e,_,k2,k3,_⟩:=inout q t hq h63
    rw[fPin q h63]
    have hs:=ga.bs (zaC L q) e k3
    cases hb:β (zaC L q) with
    | none=>rw[hb] at hs; cases hs
    | some u =>
      refine G.pin q u ?_ ?_
      · show (if q % 64=63∧q≠PN then β (zaC L q) else none)=some u
        rw[if_pos ⟨h63,fun e=>hPNo (e▸za0 hq)⟩,hb]
      · obtain ⟨p,hp⟩:∃ e',(q,e')∈O:=by
          have:q∈names O:=by rw[hnO]; exact za0 hq
          obtain ⟨p,hp,hq'⟩:=List.mem_map.1 this
          exact ⟨p.2,by rw[← hq']; exact hp⟩
        rw[show look q (sg.zhH.enc y).ents=some p from zvA hndO hp]; rfl
  let β3:Nat→Option Value:=fun m=>if m∈zei f sg.outs then β2 (m - nm d) else β m
  have β3at:∀ q t,(q,t)∈sg.outs→β3 (f q)=β2 q:=by
    intro q t hq
    by_cases h63:q % 64=63
    · have hnf:f q ∉ zei f sg.outs:=by
        intro hm
        obtain ⟨q',t',h1,h2,h3⟩:=zeT hm
        have:=finj q q' (za0 hq) (za0 h1) h3
        subst this; exact h2 h63
      show (if f q∈zei f sg.outs then _ else _)=_
      rw[if_neg hnf,pinVal q t hq h63]
    · have hm:f q∈zei f sg.outs:=zhk h63 hq
      show (if f q∈zei f sg.outs then _ else _)=_
      rw[if_pos hm,fFresh q h63,Nat.add_sub_cancel_left]
  have freshIn:∀ m,m∈zei f sg.outs→m∈names l∧m∈K:=by
    intro m hm
    obtain ⟨q,t,h1,h2,rfl⟩:=zeT hm
    exact ⟨by rw[hnl]; exact List.mem_map.2 ⟨q,za0 h1,rfl⟩,List.mem_append_left _ (List.mem_append_right _ hm)⟩
  have hβ:∀ m,m ∉ names l∨m ∉ K→β3 m=β m:=by
    intro m hm
    refine if_neg fun hmm=>?_
    obtain ⟨h1,h2⟩:=freshIn m hmm
    rcases hm with hm | hm
    · exact hm h1
    · exact hm h2
  have pinNotK:∀ q t,(q,t)∈sg.outs→q % 64=63→f q ∉ K:=by
    intro q t hq h63 hK
    rcases List.mem_append.1 hK with hK | hK
    rotate_left 1
    · exact zA4 hstirB _ hK (List.mem_map.2 ⟨q,za0 hq,rfl⟩)
    rcases List.mem_append.1 hK with hK | hK
    · obtain ⟨p,tp,h1,h2,h3⟩:=zgH hK
      rw[fPin q h63] at h2
      obtain ⟨ti,ein,e,q1,q2,q3,q4,_⟩:=inout q t hq h63
      obtain ⟨ep,hep⟩:=inLook p tp h1
      have:=h.inj q p ein ep q2 hep q4 (insMut p tp ep h1 hep) h2
      subst this
      exact h3 ⟨h63,za0 hq⟩
    · obtain ⟨q',t',h1,h2,h3⟩:=zeT hK
      have:=finj q q' (za0 hq) (za0 h1) h3
      subst this; exact h2 h63
  have keepOf:∀ b,b < w.heap.size→¬ Top (fun n=>look n (sg.tin.enc xin).ents) (fun n=>β (zaC L n)) b→w'.heap[b]? = w.heap[b]? := fun b h1 h2=>hk.block b ⟨h1,h2⟩
  have outT:∀ n e,(n,e)∈l→∃ q e0 t,(q,e0)∈O∧(q,t)∈sg.outs∧n=f q∧e=e0.ren f:=by
    intro n e hm
    obtain ⟨q,e0,h1,h2,h3⟩:=zvz hm
    have hq:q∈namesT sg.outs:=by rw[← hnO]; exact List.mem_map.2 ⟨_,h1,rfl⟩
    obtain ⟨t,ht⟩:=zeS hq
    exact ⟨q,e0,t,h1,ht,h2,h3⟩
  have renMut:∀ e0:Ent,(e0.ren f).mut=e0.mut:=fun e0=>by cases e0<;>rfl
  have lookO:∀ q e0,(q,e0)∈O→look q (sg.zhH.enc y).ents=some e0:=fun q e0 hq=>zvA hndO hq
  -- what data says goes over
  let S:St:=⟨(St.zaZ K s).env,zhD l (St.zaZ K s).ents⟩
  let x1:=cx (zpW sg.shares C ⟨avs,s.ents⟩ (sg.tin.enc xin) (zaC L) β w) (sg.zhH.enc y) β2 w'
  let x2:=cx C S β3 w'
  have notK:∀ b,C.keep b→b < w.heap.size∧¬ Top (fun n=>look n (sg.tin.enc xin).ents) (fun n=>β (zaC L n)) b:=fun b hb=>⟨g.kb b hb,fun ht=>(g.fresh b (topSub b ht)).1 hb⟩
  have topS:∀ b,Top (fun n=>look n S.ents) β3 b→Top x1.lk x1.β b∨(b < w.heap.size∧¬ Top (fun n=>look n (sg.tin.enc xin).ents) (fun n=>β (zaC L n)) b∧Top (fun n=>look n s.ents) β b):=by
    rintro b ⟨n,e,v,h1,h2,h3,h4⟩
    rcases zbR l _ n e hndl h1 with hm | ⟨hm1,hm2⟩
    · obtain ⟨q,e0,t,k1,k2,rfl,rfl⟩:=outT n e hm
      left
      exact ⟨q,e0,v,lookO q e0 k1,by rwa [renMut] at h2,by show β2 q=some v; rw[← β3at q t k2]; exact h3,h4⟩
    · right
      obtain ⟨f1,f2,_⟩:=freeN_spec K s
      obtain ⟨q1,e0,q2,q3,_⟩:=f2 n e hm2
      rw[hβ n (.inl hm1)] at h3
      have hT:Top (fun n=>look n s.ents) β b:=⟨n,e0,v,q2,by rw[← q3]; exact h2,h3,h4⟩
      refine ⟨(g.fresh b hT).2,fun hp=>?_,hT⟩
      rcases portBlock b hp n e0 v q2 (by rw[← q3]; exact h2) h3 h4 with hh | hh
      · exact q1 hh
      · exact hm1 hh
  have avConv:∀ b,(¬ (zpW sg.shares C ⟨avs,s.ents⟩ (sg.tin.enc xin) (zaC L) β w).keep b∨zuH true C ⟨avs,s.ents⟩ β w b)→¬ C.keep b∨C.old b:=by
    intro b hb
    rcases hb with hb | hb
    · exact .inl fun hk'=>hb (notK b hk')
    · exact hb.2.2
  have htk : zd5 β2=zd5 β3:=by
    have e1:zd5 β2=zd5 (fun n=>β (zaC L n)):=(G.tk _ rfl).1
    have e2:zd5 (fun n=>β (zaC L n))=zd5 β:=h.tk
    have e3 : β3 PN=β PN:=by
      by_cases hm:PN∈names l
      · refine hβ PN (.inr ?_)
        rw[hnl] at hm
        obtain ⟨q,hq,he⟩:=List.mem_map.1 hm
        obtain ⟨t,ht⟩:=zeS hq
        by_cases h63:q % 64=63
        · rw[← he]; exact pinNotK q t ht h63
        · rcases pinIn_ok hpinIn ht with ⟨h1,_⟩ | ⟨_,hlt,_⟩
          · exact absurd h1 h63
          · rw[fFresh q h63] at he
            exfalso
            have hp:PN % 64=63:=by decide
            rw[← he] at hp
            unfold nm at hp
            omega
      · exact hβ PN (.inl hm)
    rw[e1,e2]; funext i; simp only[zd5,e3]
  have rdConv:∀ u c,(sg.shares=false→bare c)→x1.rd u c→x2.rd u c:=by
    intro u c hc hr
    cases hs:sg.shares with
    | false=>exact zKv hr (zL4 (hc hs)) fun i v hv=>(congrFun htk i).symm.trans hv
    | true =>
      obtain ⟨fp,h1,h2⟩:=hr
      refine ⟨fp,h1.more fun i v hv=>(congrFun htk i).symm.trans hv,fun b hb=>?_⟩
      obtain ⟨q1,q2,q3⟩:=h2 b hb
      have q3':¬ (zpW sg.shares C ⟨avs,s.ents⟩ (sg.tin.enc xin) (zaC L) β w).keep b∨zuH true C ⟨avs,s.ents⟩ β w b:=by
        rcases q3 with q3 | q3
        · exact .inl q3
        · right
          have:zuH sg.shares C ⟨avs,s.ents⟩ β w b:=q3
          rw[hs] at this; exact this
      refine ⟨q1,fun ht=>?_,avConv b q3'⟩
      rcases topS b ht with hh | ⟨k1,k2,k3⟩
      · exact q2 hh
      · rcases q3' with q3' | q3'
        · exact q3' ⟨k1,k2⟩
        · exact q3'.2.1 k3
  have cellConv:∀ (m:List C1T),zmz (namesT sg.outs) m=true→(sg.shares=false→∀ c∈m,c.shares=false)→∀ zz:Tys (ksL m),∀ a∈encL m zz,zxI x1 x2 f a:=by
    intro m hm hsh zz a ha v hv
    obtain ⟨r1,r2,r3,r4,r5⟩:=zvo hm
    have back:∀ n,n∈namesT sg.outs→β3 (f n)=β2 n∧∃ e0,(n,e0)∈O:=by
      intro n hn
      obtain ⟨t,ht⟩:=zeS hn
      refine ⟨β3at n t ht,?_⟩
      have:n∈names O:=by rw[hnO]; exact hn
      obtain ⟨p,hp,rfl⟩:=List.mem_map.1 this
      exact ⟨p.2,hp⟩
    rcases zfV r5 ha with rfl | ⟨c,yy,hc,rfl⟩ | ⟨n,hn,rfl⟩ | ⟨n,o,hn,rfl⟩ | ⟨n,lo,k,hn,rfl⟩ | ⟨n,hn,rfl⟩
    · trivial
    · refine rdConv v (c.cell yy) (fun hs=>?_) hv
      have:=hsh hs _ hc
      cases c<;>first | trivial | (simp[C1T.shares] at this)
    · obtain ⟨b1,e0,b2⟩:=back n (r1 n hn)
      intro fr t xs hl'
      have hl2:look (f n) (zhD l (St.zaZ K s).ents)=some (e0.ren f):=zeg l _ (f n) (e0.ren f) hndl (zoS b2)
      have hl3:some (e0.ren f)=some (.arr fr t xs):=by rw[← hl2]; exact hl'
      have he0:e0 = .arr fr t xs:=by
        cases e0 with
        | box m=>cases hl3
        | deep _ _ _=>cases hl3
        | pool _=>cases hl3
        | arr fr' t' xs'=>simpa [Ent.ren] using hl3
      show β3 (f n)=some v
      rw[b1]
      exact hv fr t xs (by show look n (sg.zhH.enc y).ents=_; rw[lookO n e0 b2,he0])
    · obtain ⟨b1,e0,b2⟩:=back n (r2 n o hn)
      intro _
      obtain ⟨b,k1,k2⟩:=hv (by show (look n (sg.zhH.enc y).ents).isSome=true; rw[lookO n e0 b2]; rfl)
      exact ⟨b,by show β3 (f n)=_; rw[b1]; exact k1,k2⟩
    · obtain ⟨b1,e0,b2⟩:=back n (r3 n hn)
      intro fr t xs hl'
      have hl2:look (f n) (zhD l (St.zaZ K s).ents)=some (e0.ren f):=zeg l _ (f n) (e0.ren f) hndl (zoS b2)
      have hl3:some (e0.ren f)=some (.arr fr t xs):=by rw[← hl2]; exact hl'
      have he0:e0 = .arr fr t xs:=by
        cases e0 with
        | box m=>cases hl3
        | deep _ _ _=>cases hl3
        | pool _=>cases hl3
        | arr fr' t' xs'=>simpa [Ent.ren] using hl3
      obtain ⟨k1,ad,mm,cap,k2,k3⟩:=hv fr t xs (by show look n (sg.zhH.enc y).ents=_; rw[lookO n e0 b2,he0])
      exact ⟨k1,ad,mm,cap,by show β3 (f n)=_; rw[b1]; exact k2,k3⟩
    · obtain ⟨b1,e0,b2⟩:=back n (r4 n hn)
      intro _
      obtain ⟨vs,k1,k2⟩:=hv (by show (look n (sg.zhH.enc y).ents).isSome=true; rw[lookO n e0 b2]; rfl)
      exact ⟨vs,by show β3 (f n)=_; rw[b1]; exact k1,k2⟩
  have entConv:∀ n e v,(n,e)∈l→β3 n=some v→EntOk x2 e v:=by
    intro n e v hm hv
    obtain ⟨q,e0,t,k1,k2,rfl,rfl⟩:=outT n e hm
    rw[β3at q t k2] at hv
    have he:=G.ents q e0 v (lookO q e0 k1) hv
    rcases zfW (l:=sg.outs) hpo k1 with ⟨m,z,h1,rfl⟩ | ⟨fr,tt,xs,h1,rfl⟩ | ⟨tt,xs,h1,rfl⟩
    rotate_left 2
    · exact DeepOk.go he fun _ _=>rfl
    · obtain ⟨b,us,T,q1,q2,q3⟩:=he
      refine ⟨b,us,T,q1,q2,zcm.go (fun a ha=>cellConv m (zvp hrefE q m h1) (fun hs=>(zfH (by
        have:(zjQ sg.res || zfO sg.outs)=false:=hs
        rw[Bool.or_eq_false_iff] at this; exact this.2) q _ h1).1 m rfl) z a ha) q3⟩
    · have hdeep:sg.shares=false→fr=false∧tt.deep=false:=fun hs=>(zfH (by
        have:(zjQ sg.res || zfO sg.outs)=false:=hs
        rw[Bool.or_eq_false_iff] at this; exact this.2) q _ h1).2 fr tt rfl
      have hfr:fr=false:=by
        rcases pinIn_ok hpinIn h1 with ⟨_,⟨l1,l2,_,h0⟩ | ⟨u,_,h0⟩ | ⟨u,_,h0⟩⟩ | ⟨_,_,h0⟩
        · cases h0
        · cases h0; rfl
        · cases h0
        · cases fr with
          | false=>rfl
          | true=>exact absurd rfl (h0.1 tt)
      subst hfr
      rcases he with h0 | ⟨gb,cap,cur,T,k1,k2,k3,k4,k5,k6,k7⟩
      · exact .inl h0
      · refine .inr ⟨gb,cap,cur,T,k1,k2,k3,k4,k5,k6,fun i c hc=>?_⟩
        obtain ⟨u,hu,hr⟩:=k7 i c hc
        refine ⟨u,hu,rdConv u c (fun hs=>?_) hr⟩
        have:=zC7 (hdeep hs).2 hc
        cases c<;>first | trivial | exact (this _ _ rfl).elim
  have hGam : Gam C S X β3 tm w':=by
    refine Gam.call g (K:=K) (l:=l) hndl (fun n e' hm=>?_) (fun n fr t xs hm hnK=>?_) hβ (fun b h1 h2=>keepOf b h1 fun hp=>h2 (topSub b hp)) (fun m e v k1 k2 k3 k4 k5 b hb=>keepOf b (g.fresh b ⟨m,e,v,k1,k2,k3,hb⟩).2 fun hp=>?_) hk.size
      (hk.mono notK) (fun n e v b hm hv hmu hb=>?_) (fun n m e e' v u b hm hm' hmu hmu' hv hu hb hb'=>?_) (fun n hn hK=>?_) (fun n hn=>?_) (fun _ n e v hm hv=>entConv n e v hm hv)
    · obtain ⟨q, e0,t,k1,k2,rfl,rfl⟩:=outT n e' hm
      by_cases h63:q % 64=63
      · right
        obtain ⟨ti,ein,e,_,p2,p3,_,p5⟩:=inout q t k2 h63
        rw[fPin q h63]
        refine ⟨e,p3,?_⟩
        have hst:∀ t2,(q,t2)∈sg.outs→t2=t:=by
          have key:∀ (l:List (Nat × ET)),(namesT l).Nodup→(q,t)∈l→∀ t2,(q,t2)∈l→t2=t:=by
            intro l
            induction l with
            | nil=>intro _ h; cases h
            | cons p r ih =>
              intro hn h1 t2 h2
              obtain ⟨pn,pe⟩:=p
              have hn':=List.nodup_cons.1 hn
              rcases List.mem_cons.1 h1 with j1 | j1<;>rcases List.mem_cons.1 h2 with j2 | j2
              · cases j1; cases j2; rfl
              · cases j1; exact absurd (za0 j2) hn'.1
              · cases j2; exact absurd (za0 j1) hn'.1
              · exact ih hn'.2 j1 t2 j2
          exact key sg.outs (ze9 nd) k2
        rcases zfW (l:=sg.outs) hpo k1 with ⟨m,z,h1,rfl⟩ | ⟨fr,tt,xs,h1,rfl⟩ | ⟨tt,xs,h1,rfl⟩
        rotate_left 2
        · have := hst _ h1; subst this
          rcases p5 with ⟨l1,l2,l3,h0,_⟩ | ⟨u,ys,h0,_⟩ | ⟨u,ys,h0,_,rfl⟩
          · cases h0
          · cases h0
          · cases h0
            refine .inr (.inr ⟨tt,ys,xs,rfl,rfl,?_⟩)
            have hs:=ga.bs (zaC L q) _ p3
            cases hb:β (zaC L q) with
            | none=>rw[hb] at hs; cases hs
            | some v =>
              obtain ⟨u1,us1,r1,r2,_⟩:=ga.ents (zaC L q) _ v p3 hb
              obtain ⟨u2,us2,r3,r4,_⟩:=G.ents q _ v (lookO q _ k1) (by rw[pinVal q _ k2 h63,fPin q h63,hb])
              rw[r1] at r3
              have r5:us1=us2:=by
                have r6:=Value.tuple.inj r3
                simp at r6
                exact r6.2
              rw[r5,r4] at r2
              exact Nat.eq_of_mul_eq_mul_right (size_pos tt) r2
        · have:=hst _ h1; subst this
          rcases p5 with ⟨l1,l2,l3,_,_,rfl⟩ | ⟨u,xs,h0,_⟩ | ⟨u,xs,h0,_⟩
          · exact .inl ⟨l3,_,rfl,rfl⟩
          · cases h0
          · cases h0
        · have := hst _ h1; subst this
          rcases p5 with ⟨l1,l2,l3,h0,_⟩ | ⟨u,ys,h0,_,rfl⟩ | ⟨u,ys,h0,_⟩
          · cases h0
          rotate_left 1
          · cases h0
          · cases h0
            refine .inr (.inl ⟨tt,ys,xs,rfl,rfl,?_⟩)
            -- both are read off one value
            have hs:=ga.bs (zaC L q) _ p3
            cases hb:β (zaC L q) with
            | none=>rw[hb] at hs; cases hs
            | some v =>
              have e1:=ga.ents (zaC L q) _ v p3 hb
              have e2:=G.ents q _ v (lookO q _ k1) (by rw[pinVal q _ k2 h63,fPin q h63,hb])
              obtain ⟨ad,cap,q1,_⟩:=znw e1
              obtain ⟨ad',cap',q2,_⟩:=znw e2
              rw[q1] at q2
              simp only[Value.slice.injEq] at q2
              omega
      · left; exact List.mem_append_left _ (List.mem_append_right _ (zhk h63 k2))
    · obtain ⟨q,e0,t0,k1,k2,rfl,he⟩:=outT n _ hm
      have he0:e0 = .deep fr t xs:=by
        cases e0 with
        | box m=>cases he
        | arr _ _ _=>cases he
        | pool _=>cases he
        | deep fr' t' xs'=>exact he.symm
      subst he0
      rcases zfW (l:=sg.outs) hpo k1 with ⟨m,z,h1,h0⟩ | ⟨fr,tt,xs',h1,h0⟩ | ⟨tt,xs',h1,h0⟩
      · cases h0
      · cases h0
      · cases h0
        by_cases h63:q % 64=63
        · rcases pinIn_ok hpinIn h1 with ⟨_,⟨l1,l2,_,h0⟩ | ⟨u,_,h0⟩ | ⟨u,h2,h0⟩⟩ | ⟨hne,_⟩
          · cases h0
          · cases h0
          · cases h0
            rw[fPin q h63]
            exact List.mem_append_right _ (zgz (zgL h2))
          · exact absurd h63 hne
        · exact absurd (List.mem_append_left _ (List.mem_append_right _ (zhk h63 h1))) hnK
    · rcases portBlock b hp m e v k1 k2 k3 hb with hh | hh
      · exact k4 hh
      · exact k5 hh
    · obtain ⟨q,e0,t,k1,k2,rfl,rfl⟩:=outT n e hm
      rw[β3at q t k2] at hv
      have hT:Top x1.lk x1.β b:=⟨q,e0,v,lookO q e0 k1,by rwa [renMut] at hmu,hv,hb⟩
      obtain ⟨q1,q2⟩:=G.fresh b hT
      refine ⟨q2,?_⟩
      by_cases hlt:b < w.heap.size
      · right
        have hp:Top (fun n=>look n (sg.tin.enc xin).ents) (fun n=>β (zaC L n)) b:=Classical.byContradiction fun hp=>q1 ⟨hlt,hp⟩
        exact ⟨topSub b hp,fun m e1 u k1 k2 k3 k4=>portBlock b hp m e1 u k1 k2 k3 k4⟩
      · exact .inl (by omega)
    · obtain ⟨q,e0,t,k1,k2,rfl,rfl⟩:=outT n e hm
      obtain ⟨q',e0',t',k1',k2',rfl,rfl⟩:=outT m e' hm'
      rw[β3at q t k2] at hv; rw[β3at q' t' k2'] at hu
      rw[G.uniq q q' e0 e0' v u b (lookO q e0 k1) (lookO q' e0' k1') (by rwa [renMut] at hmu) (by rwa [renMut] at hmu') hv hu hb hb']
    · rw [hnl] at hn
      obtain ⟨q,hq,rfl⟩:=List.mem_map.1 hn
      obtain ⟨t,ht⟩:=zeS hq
      by_cases h63:q % 64=63
      · exact absurd hK (pinNotK q t ht h63)
      · rw[fFresh q h63]
        rcases pinIn_ok hpinIn ht with ⟨h0,_⟩ | ⟨_,hlt,_⟩
        · exact absurd h0 h63
        · unfold nm; omega
    · rw[hnl] at hn
      obtain ⟨q,hq,rfl⟩:=List.mem_map.1 hn
      obtain ⟨t,ht⟩:=zeS hq
      rw[β3at q t ht]
      have:q∈names O:=by rw[hnO]; exact hq
      obtain ⟨p,hp,rfl⟩:=List.mem_map.1 this
      exact G.bs p.1 p.2 (lookO p.1 p.2 hp)
  refine ⟨β3,hGam,?_⟩
  refine pack_ok (ps:=zEz f (sg.zhH.enc y).env) ?_ fun ht=>?_
  · have hlen:(encS (sg.res.map some) (Tys.fst (ksS (sg.res.map some)) (ksE sg.outs) y)).length=vs.toList.length:=by
      have:=G.len
      rw[Array.length_toList]; exact this
    refine zJh (x:=x1) (y:=x2) sg.res _ vs.toList (fun p hp zz a ha=>cellConv p.2 (zvn hrefP p hp) (fun hs=>znS (by
        have:(zjQ sg.res || zfO sg.outs)=false:=hs
        rw[Bool.or_eq_false_iff] at this; exact this.1) p hp) zz a ha) hlen (fun j av v h1 h2=>?_)
    have hv:=G.env j av (fun h=>h) h1
    have:vs.getD j undef=v:=by
      have h2':vs[j]? = some v:=by rw[← Array.getElem?_toList]; exact h2
      simp[Array.getD_eq_getD_getElem?,h2']
    rw[this] at hv; exact hv
  · exact (zmP sg.res _).trans (htup ht)
end
end Go.Di
open Go.RowKit (Below)
namespace Go.Di
section
variable {P:Program} {C:Bs} {w w':World} {s s':St} {X:Nat→Prop} {β β':Nat→Option Value} {a:Act} {o:Oper} {tm:Array Value}
  {t:TypeId} {x y:Operand} {i:TI} {K:Act→World→Prop} {Q:Exit→Act→World→Prop}
theorem store_pe (hL:zgU P t i) (ho:o.op = .store t x y) (g:Gam C s X β a.tmps w) {n j off:Nat} {u:ST} {xs:List u.El} {e e':u.El} (hl:look n s.ents=some (.arr false u xs))
    (hx:zaS (cx C s β w) (.v false [.oe n j off]) (a.eval x)) (hlen:(a.eval y).cells.size=i.zero.length) (hfit':off+(a.eval y).cells.size≤u.size) (he:xs[j]? = some e)
    (hold:∀ (k:Nat) (c:Cell),(u.cells e')[k]? = some c→(k < off∨off+(a.eval y).cells.size≤k)→(u.cells e)[k]? = some c)
    (hel:∀ (k:Nat) (c:Cell),k < (a.eval y).cells.size→(u.cells e')[off+k]? = some c→∃ v,(a.eval y).cells[k]? = some v∧(cx C s β w).rd v c) (h1:∀ v∈(a.eval y).cells.toList,v.oneCell'=true)
    (hK:Goes C X o a .bot ⟨s.env,put n (.arr false u (xs.set j e')) s.ents⟩ K):o.wp P a w K Q:=by
  obtain ⟨a1,q1,q2,_⟩:=hx; cases q1
  obtain ⟨hj,gb,q,m,cap,hβ,hv⟩:=q2 false u xs hl
  have hent:=g.ents n _ _ hl hβ
  rcases hent with ⟨h0,_⟩ | ⟨g',cap',cur,T,k1,k2,k3,k4,k5,k6,k7⟩
  · subst h0; simp at hj
  cases k1
  have hpos:=size_pos u
  have hle:(j+1) * u.size≤cap * u.size:=Nat.mul_le_mul_right _ (by omega)
  rw[Nat.add_mul,Nat.one_mul] at hle
  have hfit:j * u.size+off+(a.eval y).cells.size≤cur.size:=by rw[k6]; omega
  have hv:a.eval x = .pointer (some ⟨gb,j * u.size+off,none⟩):=by rw[hv]; simp
  refine zg6 (run_store hL ho hv k5 hlen hfit h1) (hK undef _ β ?_ zkB)
  have htop:gb∈zao (.slice (some ⟨gb,0,none⟩) xs.length cap):=by cases cap with | zero=>omega | succ k=>simp[zao]
  have hbt:¬ C.keep gb:=(g.fresh gb ⟨n,_,_,hl,rfl,hβ,htop⟩).1
  refine g.write hl (.inr ⟨u,xs,xs.set j e',rfl,rfl,by simp⟩) hβ (fun k hk=>setRow_other w gb k _ fun e'=>hk (by rw[e']; exact htop)) (by simp[World.setRow]) (below_setRow hbt _) fun hle=>?_
  refine .inr ⟨gb,cap,_,T,by simp,k2,by simpa using k3,k4,setRow_heap w gb cur _ T (0,0) k5,?_,fun idx c hc=>?_⟩
  · simp only[List.size_toArray,List.length_append,List.length_take,List.length_drop,Array.length_toList]; omega
  · rw [flat_set u e' xs j hj,zbN] at hc
    have hfl:=zaD u xs
    have hjl:(j+1) * u.size≤xs.length * u.size:=Nat.mul_le_mul_right _ (by omega)
    rw[Nat.add_mul,Nat.one_mul] at hjl
    have hlt:((flat u xs).take (j * u.size)).length=j * u.size:=by rw[List.length_take]; omega
    rw[hlt,zan] at hc
    simp only[List.getElem?_toArray]
    rw[zbN]
    have hlt':(cur.toList.take (j * u.size+off)).length=j * u.size+off:=by rw[List.length_take,Array.length_toList]; omega
    rw[hlt',Array.length_toList]
    -- a cell that stays
    have stay:∀ c,(flat u xs)[idx]? = some c→(idx < j * u.size+off∨j * u.size+off+(a.eval y).cells.size≤idx)→∃ v,(if idx < j * u.size+off then (cur.toList.take (j * u.size+off))[idx]? else if idx < j * u.size+off+(a.eval y).cells.size then (a.eval y).cells.toList[idx - (j * u.size+off)]? else (cur.toList.drop (j * u.size+off+(a.eval y).cells.size))[idx - (j * u.size+off) - (a.eval y).cells.size]?)=some v∧(cx C ⟨s.env,put n (.arr false u (xs.set j e')) s.ents⟩ β (w.setRow gb (cur.toList.take (j * u.size+off)++(a.eval y).cells.toList++cur.toList.drop (j * u.size+off+(a.eval y).cells.size)).toArray)).rd v c:=by
      intro c hc hout
      obtain ⟨v,hv,hr⟩:=k7 idx c hc
      refine ⟨v,?_,hle.rd hr⟩
      split
      · rename_i h; rw[List.getElem?_take_of_lt h]; simpa using hv
      · rename_i h
        rw[if_neg (by omega),List.getElem?_drop,show j * u.size+off+(a.eval y).cells.size+(idx - (j * u.size+off) - (a.eval y).cells.size)=idx from by omega]
        simpa using hv
    by_cases h:idx < j * u.size
    · rw[if_pos h,List.getElem?_take_of_lt h] at hc
      exact stay c hc (by omega)
    · rw [if_neg h] at hc
      by_cases h':idx < j * u.size+u.size
      · rw [if_pos h'] at hc
        have hin:∀ c,(u.cells e)[idx - j * u.size]? = some c→(flat u xs)[idx]? = some c:=fun c hh=>by
          have:=flat_get u xs j e (idx - j * u.size) he (by omega)
          rw[show j * u.size+(idx - j * u.size)=idx from by omega] at this
          rw[this]; exact hh
        by_cases hk:idx - j * u.size < off∨off+(a.eval y).cells.size≤idx - j * u.size
        · exact stay c (hin c (hold _ c hc hk)) (by omega)
        · obtain ⟨v,hv,hr⟩:=hel (idx - j * u.size - off) c (by omega) (by rw[show off+(idx - j * u.size - off)=idx - j * u.size from by omega]; exact hc)
          refine ⟨v,?_,hle.rd hr⟩
          rw[if_neg (by omega),if_pos (by omega),show idx - (j * u.size+off)=idx - j * u.size - off from by omega]
          simpa using hv
      · rw[if_neg h',List.getElem?_drop] at hc
        rw[show j * u.size+u.size+(idx - j * u.size - u.size)=idx from by omega] at hc
        exact stay c hc (by omega)
end
end Go.Di
open Go.RowKit (Below)
namespace Go.Di
theorem ze4 (t:ST) (x:Tys t.kinds):t.cells (t.mk x)=Tys.cells t.kinds x:=by cases t<;>rfl
theorem zhY {es:List (Nat × Ent)} {t:ST} {l:List A1} {e:t.El} (h:elemOf es t l=some e):∃ x,asTys es t.kinds l=some x∧e=t.mk x:=by
  unfold elemOf at h
  split at h
  · rename_i x hx; cases h; exact ⟨x,hx,rfl⟩
  · cases h
theorem zf1 {es:List (Nat × Ent)}:∀ {ks:List CK} {l:List A1} {x:Tys ks},asTys es ks l=some x→∀ (k:Nat) (c:Cell),(Tys.cells ks x)[k]? = some c→∃ b ck z,l[k]? = some b∧b.as es ck=some z∧c=ck.cell z
  | [],[],_,_,k,c,h=>by simp[Tys.cells] at h
  | ck :: ks,b :: l,x,h,k,c,hk=>by
    obtain ⟨q1,q2⟩:=zkT h
    cases k with
    | zero=>simp only[Tys.cells,List.getElem?_cons_zero,Option.some.injEq] at hk; exact ⟨b,ck,x.1,rfl,q1,hk.symm⟩
    | succ k=>simp only[Tys.cells,List.getElem?_cons_succ] at hk; simpa using zf1 q2 k c hk
  | [],_ :: _,_,h,_,_,_=>by cases h
  | _ :: _,[],_,h,_,_,_=>by cases h
theorem zkp:∀ (l:List Cell) (k:Nat),(zbO l)[k]? = (l[k]?).map A1.d
  | [],k=>by simp[zbO]
  | c :: r,0=>by simp[zbO]
  | c :: r,k+1=>by simp[zbO,zkp r k]
theorem zr0:∀ {l:List A1},zyW l=true→∀ a∈l,∃ c,a = .d c∧c.zEC
  | [],_,a,h=>by cases h
  | b :: r,h,a,ha=>by
    have : (∃ c,b = .d c∧c.zEC)∧zyW r=true:=by
      cases b with
      | d c =>
        cases c with
        | sl t xs=>cases h
        | tok k=>cases h
        | any=>cases h
        | _=>exact ⟨⟨_,rfl,trivial⟩,h⟩
      | _=>cases h
    rcases List.mem_cons.1 ha with rfl | ha
    · exact this.1
    · exact zr0 this.2 a ha
theorem zEe {u:ST} {e e':u.El} {k:Nat} {c c':Cell} (h:(u.cells e)[k]? = some c) (h':(u.cells e')[k]? = some c') (hb:c'.zEC):c.zEC:=by
  have kind:∀ (c:Cell) (e:u.El),(u.cells e)[k]? = some c→∃ ck,u.kinds[k]? = some ck∧∃ z,c=ck.cell z:=by
    intro c e h
    cases u<;>(rcases k with _ | _ | _ | _ | _ | _ | _ | _ | _ | k)<;>simp[ST.cells] at h<;>subst h<;>exact ⟨_,rfl,_,rfl⟩
  obtain ⟨ck,q1,z,rfl⟩:=kind c e h
  obtain ⟨ck',q1',z',rfl⟩:=kind c' e' h'
  rw[q1] at q1'; cases q1'
  cases ck with
  | sl t2=>exact hb.elim
  | tok=>exact hb.elim
  | any=>exact hb.elim
  | _=>trivial
theorem zhm (l m n:List Value):(l++m++n).flatMap zaN=l.flatMap zaN++m.flatMap zaN++n.flatMap zaN:=by simp
section
variable {P:Program} {C:Bs} {w w':World} {s s':St} {X:Nat→Prop} {β β':Nat→Option Value} {a:Act} {o:Oper} {tm:Array Value}
  {t:TypeId} {x y:Operand} {i:TI} {K:Act→World→Prop} {Q:Exit→Act→World→Prop}
theorem zny {a:A1} {k:List Nat} {u:Value} (ha:A1Ok (cx C s β w) a u) (h:a.absorb s.ents=some k):∀ b∈zaN u,∃ m∈k,∃ v,β m=some v∧b∈zao v:=by
  intro b hb
  rcases zgT h with ⟨m,ys,rfl,hl,rfl⟩ | ⟨rfl,rfl | ⟨c,rfl,hc⟩⟩
  · exact ⟨m,List.mem_singleton.2 rfl,u,ha false .int ys hl,zfG hb⟩
  · obtain ⟨ad,rfl⟩:=ha
    cases ad<;>simp[zaN] at hb
  · obtain ⟨fp,hr,_⟩:=ha
    cases hr with
    | int k n=>simp[zaN] at hb
    | bool b=>simp[zaN] at hb
    | str s=>simp[zaN] at hb
    | emp=>exact hc.elim
    | sl=>exact hc.elim
    | tok=>exact hc.elim
    | any=>exact hc.elim
theorem zj0 {es:List (Nat × Ent)}:∀ {l:List A1} {K:List Nat},zdr es l=some K→∀ {k:Nat} {a:A1},l[k]? = some a→∃ k1,a.absorb es=some k1∧∀ m∈k1,m∈K
  | [],_,_,k,a,h=>by simp at h
  | b :: r,K,h,k,a,ha=>by
    obtain ⟨k1,k2,e1,e2,rfl⟩:=zfe h
    cases k with
    | zero=>simp at ha; subst ha; exact ⟨k1,e1,fun m hm=>List.mem_append_left _ hm⟩
    | succ k =>
      obtain ⟨k3,h1,h2⟩:=zj0 e2 (by simpa using ha)
      exact ⟨k3,h1,fun m hm=>List.mem_append_right _ (h2 m hm)⟩
theorem store_de (hT:zgU P t i) (ho:o.op = .store t x y) (g:Gam C s X β a.tmps w) {n j off:Nat} {c:List A1} {u:ST} {xs:List u.El} {Kn:List Nat}
    (hl:look n s.ents=some (.deep false u xs)) (habs:zdr s.ents c=some Kn) (hnd:Kn.Nodup) (hpin:n % 64=63→zyW c=true)
    (hx:zaS (cx C s β w) (.v false [.de n j off]) (a.eval x)) (hcv:zcm (cx C s β w) c (a.eval y).cells.toList) (hlen:(a.eval y).cells.size=i.zero.length)
    {e e':u.El} (he:xs[j]? = some e) {l:List A1} (hp:patch off c (zbO (u.cells e))=some l) (hel:elemOf s.ents u l=some e')
    (hK:Goes C X o a .bot ⟨(St.zaZ (Kn++[dcn n]) s).env,put n (.deep false u (xs.set j e')) (St.zaZ (Kn++[dcn n]) s).ents⟩ K):o.wp P a w K Q:=by
  obtain ⟨a1,q1,q2,_⟩:=hx; cases q1
  obtain ⟨hj,vs,gb,q,m,cap,hβ,hvs,hv⟩:=q2 false u xs hl
  obtain ⟨sv,us,e1,hus,hndT,hcd,hTop⟩:=g.ents n _ _ hl hβ
  cases e1
  have hs:sv = .slice (some ⟨gb,q,none⟩) m cap:=by simpa using hvs
  rcases hTop with ⟨h0,_⟩ | ⟨g',cap',cur,T,k1,k2,k3,k4,k5,k6,k7⟩
  · subst h0; simp at hj
  rw[hs] at k1
  cases k1
  obtain ⟨p1,p2⟩:=zfJ _ _ _ _ hp
  rw[zc2,zan] at p1
  obtain ⟨xt,a1,rfl⟩:=zhY hel
  have hcl:=hcv.length
  simp only[Array.length_toList] at hcl
  have hpos:=size_pos u
  have hle:(j+1) * u.size≤cap * u.size:=Nat.mul_le_mul_right _ (by omega)
  have hle2:(j+1) * u.size≤xs.length * u.size:=Nat.mul_le_mul_right _ (by omega)
  rw[Nat.add_mul,Nat.one_mul] at hle hle2
  have hfit:j * u.size+off+(a.eval y).cells.size≤cur.size:=by rw[k6]; omega
  have hv:a.eval x = .pointer (some ⟨gb,j * u.size+off,none⟩):=by rw[hv]; simp
  have htop:gb∈zaN sv:=by rw[hs]; cases cap with | zero=>omega | succ k=>simp[zaN]
  have hbn:gb∈zao (.tuple (sv :: us).toArray):=List.mem_flatMap.2 ⟨sv,by simp,htop⟩
  have hbt:¬ C.keep gb:=(g.fresh gb ⟨n,_,_,hl,rfl,hβ,hbn⟩).1
  have hKm:∀ k∈Kn,∃ e,look k s.ents=some e∧e.mut=true:=fun k hk=>by
    obtain ⟨ys,h⟩:=zhA habs k hk; exact ⟨_,h,rfl⟩
  have hnK:n ∉ Kn:=fun hk=>by obtain ⟨ys,h⟩:=zhA habs n hk; rw[hl] at h; cases h
  obtain ⟨r1,r2⟩:=zh5 g hcv habs hnd
  have hrl:(znH c (a.eval y).cells.toList).length=c.length:=zfQ (by simpa using hcl)
  -- blocks of what goes over are not of the array
  have apart:∀ b m v,m∈Kn→β m=some v→b∈zao v→b ∉ zao (.tuple (sv :: us).toArray):=fun b m v hm h1 h2 h3=>by
    obtain ⟨e2,f1,f2⟩:=hKm m hm
    have:=g.uniq m n e2 _ v _ b f1 hl f2 rfl h1 hβ h2 h3
    subst this; exact hnK hm
  have hlt:((zbO (u.cells e)).take off).length=off:=by rw[List.length_take,zc2,zan]; omega
  -- what lies beside the patch is as it was
  have hold:∀ (k:Nat) (cc:Cell),(u.cells (u.mk xt))[k]? = some cc→(k < off∨off+c.length≤k)→(u.cells e)[k]? = some cc:=fun k cc hk hout=>by
    rw[ze4] at hk
    obtain ⟨b,ck,z,h1,h2,rfl⟩:=zf1 a1 k cc hk
    have hb:(zbO (u.cells e))[k]? = some b:=by
      rw[p2,zbN,hlt] at h1
      rcases hout with h | h
      · rw[if_pos h,List.getElem?_take_of_lt h] at h1; exact h1
      · rw[if_neg (by omega),if_neg (by omega),List.getElem?_drop,show off+c.length+(k - off - c.length)=k from by omega] at h1; exact h1
    rw[zkp] at hb
    cases hc:(u.cells e)[k]? with
    | none=>rw[hc] at hb; cases hb
    | some c0 =>
      rw[hc] at hb
      simp only[Option.map_some,Option.some.injEq] at hb
      subst hb
      have h2:ck.get c0=some z:=by cases ck<;>exact h2
      rw[zfx h2]
  have hnew:∀ (k:Nat) (cc:Cell),k < c.length→(u.cells (u.mk xt))[off+k]? = some cc→∃ b ck z,c[k]? = some b∧b.as s.ents ck=some z∧cc=ck.cell z:=fun k cc hk h=>by
    rw[ze4] at h
    obtain ⟨b,ck,z,h1,h2,rfl⟩:=zf1 a1 _ cc h
    rw[p2,zbN,hlt,if_neg (by omega),if_pos (by omega),show off+k - off=k from by omega] at h1
    exact ⟨b,ck,z,h1,h2,rfl⟩
  refine zg6 (run_store hT ho hv k5 hlen hfit hcv.one) (hK undef _ (upd β n (.tuple (sv :: (us.take (j * u.size+off)++znH c (a.eval y).cells.toList++us.drop (j * u.size+off+c.length))).toArray)) ?_ zkB)
  have hus1:j * u.size+off+c.length≤us.length:=by rw[hus]; omega
  have hul:(us.take (j * u.size+off)).length=j * u.size+off:=by rw[List.length_take]; omega
  have hsub1:∀ v∈us.take (j * u.size+off),v∈us:=fun v hv=>List.mem_of_mem_take hv
  have hsub2:∀ v∈us.drop (j * u.size+off+c.length),v∈us:=fun v hv=>List.mem_of_mem_drop hv
  have hin:∀ v∈us,∀ b∈zaN v,b∈zao (.tuple (sv :: us).toArray):=fun v hv b hb=>List.mem_flatMap.2 ⟨v,by simp[hv],hb⟩
  have hndT':(zaN sv).Nodup∧(us.flatMap zaN).Nodup∧∀ b∈zaN sv,b ∉ us.flatMap zaN:=by
    rw[List.flatMap_cons] at hndT
    have:=List.nodup_append.1 hndT
    exact ⟨this.1,this.2.1,fun b h1 h2=>this.2.2 b h1 b h2 rfl⟩
  have hsplit:us=us.take (j * u.size+off)++(us.drop (j * u.size+off)).take c.length++us.drop (j * u.size+off+c.length):=by
    conv=>lhs; rw[← List.take_append_drop (j * u.size+off) us,← List.take_append_drop c.length (us.drop (j * u.size+off)),List.drop_drop]
    simp
  refine g.zDl hl hβ hKm hnK (by simp) (by simp) (fun h63=>?_) (fun b _ hb=>setRow_other w gb b _ fun e'=>hb (by rw[e']; exact hbn)) (by simp[World.setRow]) (below_setRow hbt _) (fun b hb=>?_) (fun yc hyw=>?_)
  · -- a lent array: nothing has turned
    have hba:=zr0 (hpin h63)
    congr 2
    refine List.ext_getElem? fun idx=>?_
    rw[zbN,hul,hrl]
    split
    · rename_i h; rw[List.getElem?_take_of_lt h]
    · rename_i h
      split
      · rename_i h'
        have hk:idx - (j * u.size+off) < c.length:=by omega
        obtain ⟨b,hb⟩:∃ b,c[idx - (j * u.size+off)]? = some b:=⟨_,List.getElem?_eq_getElem hk⟩
        obtain ⟨v,hv,_⟩:=hcv.get hb
        rw[zir hb hv]
        obtain ⟨c0,rfl,hc0⟩:=hba b (List.mem_of_getElem? hb)
        obtain ⟨cc,hcc⟩:∃ cc,(u.cells (u.mk xt))[off+(idx - (j * u.size+off))]? = some cc:=⟨_,List.getElem?_eq_getElem (by rw[zan]; omega)⟩
        obtain ⟨b',ck,z,h1,h2,h3⟩:=hnew _ cc hk hcc
        rw[hb] at h1; cases h1
        have h4:c0=ck.cell z:=zfx (by cases ck<;>exact h2)
        obtain ⟨c1,hc1⟩:∃ c1,(u.cells e)[off+(idx - (j * u.size+off))]? = some c1:=⟨_,List.getElem?_eq_getElem (by rw[zan]; omega)⟩
        have hb1:=zEe hc1 hcc (by rw[h3,← h4]; exact hc0)
        have hf:=flat_get u xs j e (off+(idx - (j * u.size+off))) he (by omega)
        rw[hc1,show j * u.size+(off+(idx - (j * u.size+off)))=idx from by omega] at hf
        obtain ⟨z1,b1,z2,z3,z4⟩:=k7 idx c1 hf
        rw[z3]
        cases c1 with
        | sl t xs=>exact hb1.elim
        | tok k=>exact hb1.elim
        | any=>exact hb1.elim
        | _=>rw[z4.1]; rfl
      · rename_i h'
        rw[List.getElem?_drop,show j * u.size+off+c.length+(idx - (j * u.size+off) - c.length)=idx from by omega]
  · have hb:b∈(sv :: (us.take (j * u.size+off)++znH c (a.eval y).cells.toList++us.drop (j * u.size+off+c.length))).flatMap zaN:=hb
    rw[List.flatMap_cons,zhm] at hb
    simp only[List.mem_append] at hb
    rcases hb with hb | (hb | hb) | hb
    · exact .inl (List.mem_flatMap.2 ⟨sv,by simp,hb⟩)
    · obtain ⟨v,h1,h2⟩:=List.mem_flatMap.1 hb; exact .inl (hin v (hsub1 v h1) b h2)
    · obtain ⟨m,hm,v,h1,h2⟩:=r2 b hb; exact .inr ⟨m,hm,v,h1,h2⟩
    · obtain ⟨v,h1,h2⟩:=List.mem_flatMap.1 hb; exact .inl (hin v (hsub2 v h1) b h2)
  · refine ⟨sv,_,rfl,?_,?_,hcd,.inr ⟨gb,cap,_,T,?_,k2,by simpa using k3,k4,by rw[hyw]; exact setRow_heap w gb cur _ T (0,0) k5,?_,fun idx cc hc=>?_⟩⟩
    · simp only[List.length_append,List.length_take,List.length_drop,List.length_set,hrl]; omega
    · rw [List.flatMap_cons,zhm]
      have o2:=hndT'.2.1
      rw[hsplit,zhm] at o2
      have n1:=List.nodup_append.1 o2
      have n2:=List.nodup_append.1 n1.1
      have far:∀ b∈(znH c (a.eval y).cells.toList).flatMap zaN,b ∉ zao (.tuple (sv :: us).toArray):=fun b hb=>by
        obtain ⟨m,hm,v,h1,h2⟩:=r2 b hb; exact apart b m v hm h1 h2
      have m1:∀ b∈(us.take (j * u.size+off)).flatMap zaN,b∈us.flatMap zaN:=fun b hb=>by
        obtain ⟨v,h1,h2⟩:=List.mem_flatMap.1 hb; exact List.mem_flatMap.2 ⟨v,hsub1 v h1,h2⟩
      have m2:∀ b∈(us.drop (j * u.size+off+c.length)).flatMap zaN,b∈us.flatMap zaN:=fun b hb=>by
        obtain ⟨v,h1,h2⟩:=List.mem_flatMap.1 hb; exact List.mem_flatMap.2 ⟨v,hsub2 v h1,h2⟩
      have up:∀ b∈us.flatMap zaN,b∈zao (.tuple (sv :: us).toArray):=fun b hb=>by
        obtain ⟨v,h1,h2⟩:=List.mem_flatMap.1 hb; exact hin v h1 b h2
      refine List.nodup_append.2 ⟨hndT'.1,List.nodup_append.2 ⟨List.nodup_append.2 ⟨n2.1,r1,fun b h1 b' h2 he=>?_⟩,n1.2.1,fun b h1 b' h2 he=>?_⟩,fun b h1 b' h2 he=>?_⟩
      · subst he; exact far b h2 (up b (m1 b h1))
      · subst he
        rcases List.mem_append.1 h1 with h1 | h1
        · exact n1.2.2 b (List.mem_append_left _ h1) b h2 rfl
        · exact far b h1 (up b (m2 b h2))
      · subst he
        rcases List.mem_append.1 h2 with h2 | h2
        · rcases List.mem_append.1 h2 with h2 | h2
          · exact hndT'.2.2 b h1 (m1 b h2)
          · exact far b h2 (List.mem_flatMap.2 ⟨sv,by simp,h1⟩)
        · exact hndT'.2.2 b h1 (m2 b h2)
    · rw[hs]; simp
    · simp only[List.size_toArray,List.length_append,List.length_take,List.length_drop,Array.length_toList]; omega
    · rw [flat_set u _ xs j hj,zbN] at hc
      have hfl:=zaD u xs
      have hlt2:((flat u xs).take (j * u.size)).length=j * u.size:=by rw[List.length_take]; omega
      rw[hlt2,zan] at hc
      simp only[List.getElem?_toArray]
      rw[zbN,zbN]
      have hlt':(cur.toList.take (j * u.size+off)).length=j * u.size+off:=by rw[List.length_take,Array.length_toList]; omega
      rw[hlt',Array.length_toList,hul,hrl]
      have stay:∀ c0,(flat u xs)[idx]? = some c0→(idx < j * u.size+off∨j * u.size+off+c.length≤idx)→∃ z b,(if idx < j * u.size+off then (cur.toList.take (j * u.size+off))[idx]? else if idx < j * u.size+off+(a.eval y).cells.size then (a.eval y).cells.toList[idx - (j * u.size+off)]? else (cur.toList.drop (j * u.size+off+(a.eval y).cells.size))[idx - (j * u.size+off) - (a.eval y).cells.size]?)=some z ∧
          (if idx < j * u.size+off then (us.take (j * u.size+off))[idx]? else if idx < j * u.size+off+c.length then (znH c (a.eval y).cells.toList)[idx - (j * u.size+off)]? else (us.drop (j * u.size+off+c.length))[idx - (j * u.size+off) - c.length]?)=some b∧zdH yc z c0 b:=by
        intro c0 hc0 hout
        obtain ⟨z,b,h1,h2,h3⟩:=k7 idx c0 hc0
        refine ⟨z,b,?_,?_,h3.go fun k hk=>?_⟩
        · split
          · rename_i h; rw[List.getElem?_take_of_lt h]; simpa using h1
          · rename_i h
            rw[if_neg (by omega),List.getElem?_drop,show j * u.size+off+(a.eval y).cells.size+(idx - (j * u.size+off) - (a.eval y).cells.size)=idx from by omega]
            simpa using h1
        · split
          · rename_i h; rw[List.getElem?_take_of_lt h]; exact h2
          · rename_i h
            rw[if_neg (by omega),List.getElem?_drop,show j * u.size+off+c.length+(idx - (j * u.size+off) - c.length)=idx from by omega]
            exact h2
        · rw[hyw]
          refine setRow_other w gb k _ fun e'=>?_
          subst e'
          exact hndT'.2.2 k htop (List.mem_flatMap.2 ⟨b,List.mem_of_getElem? h2,hk⟩)
      by_cases h:idx < j * u.size
      · rw[if_pos h,List.getElem?_take_of_lt h] at hc
        exact stay cc hc (by omega)
      · rw [if_neg h] at hc
        by_cases h':idx < j * u.size+u.size
        · rw [if_pos h'] at hc
          have hin2:∀ c0,(u.cells e)[idx - j * u.size]? = some c0→(flat u xs)[idx]? = some c0:=fun c0 hh=>by
            have:=flat_get u xs j e (idx - j * u.size) he (by omega)
            rw[show j * u.size+(idx - j * u.size)=idx from by omega] at this
            rw[this]; exact hh
          by_cases hk:idx - j * u.size < off∨off+c.length≤idx - j * u.size
          · exact stay cc (hin2 cc (hold _ cc hc hk)) (by omega)
          · obtain ⟨b,ck,z,h1,h2,rfl⟩:=hnew (idx - j * u.size - off) cc (by omega) (by rw[show off+(idx - j * u.size - off)=idx - j * u.size from by omega]; exact hc)
            obtain ⟨v,hv,hok,_⟩:=hcv.get h1
            obtain ⟨k1,ha1,ha2⟩:=zj0 habs h1
            refine ⟨v,zJj b v,?_,?_,zr5 g hok ha1 h2 (fun t2 xs2 hh=>zlV hcd (by rw[← hh]; exact hc)) fun k hk=>?_⟩
            · rw[if_neg (by omega),if_pos (by omega),show idx - (j * u.size+off)=idx - j * u.size - off from by omega]
              exact hv
            · rw[if_neg (by omega),if_pos (by omega),show idx - (j * u.size+off)=idx - j * u.size - off from by omega]
              exact zir h1 hv
            · rw[hyw]
              refine setRow_other w gb k _ fun e'=>?_
              subst e'
              obtain ⟨m,hm,v2,h3,h4⟩:=zny hok ha1 k hk
              exact apart k m v2 (ha2 m hm) h3 h4 hbn
        · rw[if_neg h',List.getElem?_drop] at hc
          rw[show j * u.size+u.size+(idx - j * u.size - u.size)=idx from by omega] at hc
          exact stay cc hc (by omega)
end
end Go.Di
open Go.RowKit (Below)
namespace Go.Di
theorem zdH.one {x:Cx} {u b:Value} {c:Cell} (h:zdH x u c b):u.oneCell'=true:=by
  cases c with
  | sl t xs =>
    cases t with
    | int=>rcases h.2 with ⟨_,ad,rfl⟩ | ⟨_,_,_,_,rfl,_⟩<;>rfl
    | _=>exact h.elim
  | tok k=>exact h.elim
  | any=>exact h.elim
  | _=>obtain ⟨fp,hr,_⟩:=h.2; exact hr.ziv
theorem zFP {x:Cx} {fr:Bool} {t:ST} {xs:List t.El} {vs:Array Value} {v:Value} (h:EntOk x (.deep fr t xs) (.tuple vs)) (h0:vs[0]? = some v) (hne:0 < xs.length):∃ g cap,v = .slice (some ⟨g,0,none⟩) xs.length cap:=by
  cases fr with
  | false =>
    obtain ⟨sv,us,e1,_,_,_,hT⟩:=h
    cases e1
    have hs:sv=v:=by simpa using h0
    subst hs
    rcases hT with ⟨h1,_⟩ | ⟨gb,cap,cur,T,k1,_⟩
    · subst h1; simp at hne
    · exact ⟨gb,cap,k1⟩
  | true =>
    obtain ⟨sv,us,e1,_,hT⟩:=h
    cases e1
    have hs:sv=v:=by simpa using h0
    subst hs
    rcases hT with ⟨h1,_⟩ | ⟨gb,cap,k1,_⟩
    · subst h1; simp at hne
    · exact ⟨gb,cap,k1⟩
theorem zzR {t:ST} (ht:t.zek=true) {z:t.El} (hz:ziq t=some z) {vs:List Value} (hv:zOk (zeroOf t) vs=true) :
    (∀ (x:Cx) (j:Nat) (c:Cell),(t.cells z)[j]? = some c→∃ v b,vs[j]? = some v∧(znH (zeroOf t) vs)[j]? = some b∧zdH x v c b)∧∀ b∈znH (zeroOf t) vs,zaN b=[]:=by
  have hcor:∀ (j:Nat) a,(zeroOf t)[j]? = some a→∃ c,(t.cells z)[j]? = some c∧((a = .d c∧c.zEC)∨(a = .mt∧c = .sl .int [])):=by
    intro j a h1
    cases t<;>cases ht<;>cases hz <;>
      (rcases j with _ | _ | _ | _ | _ | _ | _ | _ | _ | j)<;>cases h1<;>first | exact ⟨_,rfl,.inl ⟨rfl,trivial⟩⟩ | exact ⟨_,rfl,.inr ⟨rfl,rfl⟩⟩
  have hlen:(zeroOf t).length=(t.cells z).length:=by rw[zan]; cases t<;>rfl
  have hok:∀ x:Cx,zcm x (zeroOf t) vs:=fun x=>zlH hv
  refine ⟨fun x j c hc=>?_,fun b hb=>?_⟩
  · have hj:j < (zeroOf t).length:=by rw[hlen]; exact (List.getElem?_eq_some_iff.1 hc).1
    obtain ⟨v,h1,h2,_⟩:=(hok x).get (List.getElem?_eq_getElem hj)
    refine ⟨v,_,h1,zir (List.getElem?_eq_getElem hj) h1,?_⟩
    obtain ⟨c',q1,q2⟩:=hcor j _ (List.getElem?_eq_getElem hj)
    rw[hc] at q1; cases q1
    rcases q2 with ⟨q2,q3⟩ | ⟨q2,rfl⟩
    · rw[q2] at h2 ⊢
      cases c with
      | sl t xs=>exact q3.elim
      | tok k=>exact q3.elim
      | any=>exact q3.elim
      | _=>exact ⟨rfl,h2⟩
    · rw[q2] at h2 ⊢
      exact ⟨rfl,.inl ⟨rfl,h2⟩⟩
  · obtain ⟨j,hj,rfl⟩:=List.getElem_of_mem hb
    let x:Cx:=⟨default,fun _=>none,fun _=>none,fun _=>True⟩
    have hl:=(hok x).length
    rw[zfQ hl] at hj
    obtain ⟨v,h1,h2,_⟩:=(hok x).get (List.getElem?_eq_getElem hj)
    have h3:=zir (List.getElem?_eq_getElem hj) h1
    rw[List.getElem?_eq_getElem (by rw[zfQ hl]; exact hj)] at h3
    have h3:=Option.some.inj h3
    rw[h3]
    obtain ⟨c',q1,q2⟩:=hcor j _ (List.getElem?_eq_getElem hj)
    rcases q2 with ⟨q2,q3⟩ | ⟨q2,rfl⟩
    · rw[q2]; rfl
    · rw[q2] at h2 ⊢; obtain ⟨ad,rfl⟩:=h2; cases ad<;>rfl
theorem zED {l:List Value} (h:∀ b∈l,zaN b=[]):l.flatMap zaN=[]:=by
  induction l with
  | nil=>rfl
  | cons a r ih=>rw[List.flatMap_cons,h a (List.mem_cons_self ..),ih fun b hb=>h b (List.mem_cons_of_mem _ hb)]; rfl
section
variable {P:Program} {C:Bs} {w w':World} {s s':St} {X:Nat→Prop} {β β':Nat→Option Value} {a:Act} {o:Oper} {tm:Array Value}
  {t:TypeId} {x y:Operand} {i:TI} {K:Act→World→Prop} {Q:Exit→Act→World→Prop}
theorem Gam.ziu (g:Gam C s X β tm w) {n:Nat} {u:ST} {xs:List u.El} {vs:Array Value} {K:List Nat} (hnm:n % 64≠63)
    (hKm:∀ k∈K,∃ e,look k s.ents=some e∧e.mut=true)
    (hw:∀ b,b < w.heap.size→(∀ k∈K,∀ z,β k=some z→b ∉ zao z)→w'.heap[b]? = w.heap[b]?) (hsz:w.heap.size≤w'.heap.size) (hbel:Kp C.keep w w')
    (htop:∀ b∈zao (.tuple vs),(w.heap.size≤b∧b < w'.heap.size)∨∃ k∈K,∃ z,β k=some z∧b∈zao z)
    (hent:∀ y:Cx,y.w=w'→DeepOk y u xs (.tuple vs)) :
    Gam C ((St.zaZ K s).push n (.deep false u xs)) X (upd β n (.tuple vs)) tm w':=by
  have hTop:∀ k∈K,∀ z,β k=some z→∀ b∈zao z,Top (fun n=>look n s.ents) β b:=fun k hk z hz b hb=>by
    obtain ⟨e,e1,e2⟩:=hKm k hk; exact ⟨k,e,z,e1,e2,hz,hb⟩
  have own:∀ k∈K,∀ z,β k=some z→∀ b∈zao z,∀ m e0 v,look m s.ents=some e0→e0.mut=true→β m=some v→b∈zao v→m=k:=fun k hk z hz b hb m e0 v h1 h2 h3 h4=>by
    obtain ⟨e,e1,e2⟩:=hKm k hk
    exact g.uniq m k e0 e v z b h1 e1 h2 e2 h3 hz h4 hb
  have := g.call (K:=K++[n]) (l:=[(n,.deep false u xs)]) (β':=upd β n (.tuple vs)) (w':=w') (by simp[names])
    (fun m e' hm=>by simp only[List.mem_singleton] at hm; cases hm; exact .inl (by simp))
    (fun m fr t ys hm hk=>by simp only[List.mem_singleton] at hm; cases hm; exact absurd (by simp) hk)
    (fun m hm=>zaw β _ (by
      rcases hm with hm | hm
      · simpa [names] using hm
      · exact fun e=>hm (by rw[e]; simp)))
    (fun b hlt hnt=>hw b hlt fun k hk z hz hb=>hnt (hTop k hk z hz b hb))
    (fun m e v h1 h2 h3 hk _ b hb=>hw b (g.fresh b ⟨m,e,v,h1,h2,h3,hb⟩).2 fun k hkk z hz hbz=>by
      have:=own k hkk z hz b hbz m e v h1 h2 h3 hb
      subst this; exact hk (List.mem_append_left _ hkk))
    hsz hbel
    (fun m e v b hm hv _ hb=>by
      simp only[List.mem_singleton] at hm; cases hm
      rw[upd_same] at hv; cases hv
      rcases htop b hb with h | ⟨k,hk,z,hz,hbz⟩
      · exact ⟨h.2,.inl h.1⟩
      · have hT:=hTop k hk z hz b hbz
        refine ⟨Nat.lt_of_lt_of_le (g.fresh b hT).2 hsz,.inr ⟨hT,fun m e0 v h1 h2 h3 h4 => .inl ?_⟩⟩
        rw[own k hk z hz b hbz m e0 v h1 h2 h3 h4]; exact List.mem_append_left _ hk)
    (fun m m' e f v v' b hm hm' _ _ _ _ _ _=>by simp only[List.mem_singleton] at hm hm'; cases hm; cases hm'; rfl)
    (fun m hm _=>by simp[names] at hm; rw[hm]; exact hnm) (fun m hm=>by simp[names] at hm; rw[hm,upd_same]; rfl)
    (fun _ m e v hm hv=>by
      simp only[List.mem_singleton] at hm; cases hm
      rw[upd_same] at hv; cases hv
      exact hent _ rfl)
  rw[zhS] at this
  exact this
theorem zra (hL:zgU P t i) {f:Nat} (ho:o.op = .fieldAddr t x f) (g:Gam C s X β a.tmps w) (hst:i.strct=true) {off k:Nat} {ag:Bool} (hf:i.fields[f]? = some (off,k,ag)) {n j q:Nat} {fr:Bool} {u:ST} {xs:List u.El}
    (hl:look n s.ents=some (.deep fr u xs)) (hx:zaS (cx C s β w) (.v false [.de n j q]) (a.eval x)) (hK:Goes C X o a (.one (.de n j (q+off))) s K):o.wp P a w K Q:=by
  obtain ⟨a1,h1,h2,_⟩:=hx; cases h1
  obtain ⟨hj,vs,gb,q',m,cap,hb,hb0,hv⟩:=h2 fr u xs hl
  refine zak (av := .one (.de n j (q+off))) (zfu hL ho hst hf hv) g (zbW (a := .de n j (q+off)) (fun fr' u' xs' hl'=>?_) rfl) hK
  have:look n s.ents=some (.deep fr' u' xs'):=hl'
  rw[hl] at this; cases this
  exact ⟨hj,vs,gb,q',m,cap,hb,hb0,by rw[Nat.add_assoc]⟩
theorem zqU (hL:zgU P t i) {e:ST} (he:i.elem=some e) (ho:o.op = .indexAddr t x y) (g:Gam C s X β a.tmps w) {n:Nat} {fr:Bool} {xs:List e.El} {j:Int} {el:e.El}
    (hl:look n s.ents=some (.deep fr e xs)) (hx:zaS (cx C s β w) (.v false [.dp n]) (a.eval x)) (hy:a.eval y = .int .i64 j) (hel:idx xs j=some el) (hK:Goes C X o a (.one (.de n j.toNat 0)) s K):o.wp P a w K Q:=by
  obtain ⟨a1,h1,h2,_⟩:=hx; cases h1
  obtain ⟨h0,hlt,hget⟩:=zmd hel
  obtain ⟨vs,hb,hb0⟩:=h2 (by simp[cx,hl])
  obtain ⟨gb,cap,hv⟩:=zFP (g.ents n _ _ hl hb) hb0 (by omega)
  refine zak (av := .one (.de n j.toNat 0)) (zft hL he ho hv hy h0 hlt) g (zbW (a := .de n j.toNat 0) (fun fr' u' xs' hl'=>?_) rfl) hK
  have:look n s.ents=some (.deep fr' u' xs'):=hl'
  rw[hl] at this; cases this
  exact ⟨by omega,_,gb,0,xs.length,cap,hb,by rw[hb0,hv],by simp⟩
theorem make_deep (hL:zgU P t i) (ho:o.op = .makeSlice t x y) (g:Gam C s X β a.tmps w) (d:Nat) {e:ST} (he:i.elem=some e) (hcd:e.zek=true) {z:e.El} (hz:ziq e=some z) {k1 k2:IntKind} {n m:Int}
    (hx:a.eval x = .int k1 n) (hy:a.eval y = .int k2 m) (h0:0≤n) (h1:n≤m) (h2:m≤(zar:Int))
    (hK:Goes C X o a (.one (.dp (nm d))) (s.push (nm d) (.deep false e (List.replicate n.toNat z))) K):o.wp P a w K Q:=by
  obtain ⟨inf,d',z',hi,hu,hs,hag,hz',hzo,_,hel,_⟩:=hL
  obtain ⟨E,rfl,einf,ez,q1,q2,q3,q4,q5⟩:=hel e he
  have hmax:m≤68719476736:=h2
  have hbytes:(einf.bytes:Int) * m≤281474976710656:=by
    have:(einf.bytes:Int) * m≤256 * 68719476736:=Int.mul_le_mul (by omega) hmax (by omega) (by omega)
    omega
  have hr:=run_make (P:=P) w t E einf ez hu q1 q4 k1 k2 n m h0 h1 hbytes (by omega)
  rw[q2] at hr
  have hsz:ez.cells.size=e.size:=zhI (_E:=E) q5
  obtain ⟨zc,zt⟩:=zzR hcd hz q5
  have hpos:=size_pos e
  let us:List Value:=(List.range (n.toNat * e.size)).map fun j=>(znH (zeroOf e) ez.cells.toList).getD (j % e.size) (.bool false)
  have hut:∀ b∈us,zaN b=[]:=fun b hb=>by
    obtain ⟨j,_,rfl⟩:=List.mem_map.1 hb
    rw[List.getD_eq_getElem?_getD]
    cases h:(znH (zeroOf e) ez.cells.toList)[j % e.size]? with
    | none=>rfl
    | some b=>exact zt b (List.mem_of_getElem? h)
  have hsv:∀ b∈zaN (.slice (some ⟨w.heap.size,0,none⟩) n.toNat m.toNat),b=w.heap.size:=fun b hb=>by
    cases hm:m.toNat with
    | zero=>rw[hm] at hb; simp[zaN] at hb
    | succ k=>rw[hm] at hb; simpa [zaN] using hb
  have hvt:∀ v:Value,(v :: us).flatMap zaN=zaN v:=fun v=>by rw[List.flatMap_cons,zED hut,List.append_nil]
  have gp : Gam C ((St.zaZ [] s).push (nm d) (.deep false e (List.replicate n.toNat z))) X (upd β (nm d) (.tuple (.slice (some ⟨w.heap.size,0,none⟩) n.toNat m.toNat :: us).toArray)) a.tmps
      (w.alloc (.cells (madeCells ez.cells (m.toNat * e.size)) E)):=by
    refine g.ziu (zfq d) (fun k hk=>by cases hk) (fun b hlt _=>(zbr w _).block b hlt) (zbr w _).size (Kp.of (zbr w _) g.kb) (fun b hb=>?_) (fun yc hyw=>?_)
    · have hb:b∈(Value.slice (some ⟨w.heap.size,0,none⟩) n.toNat m.toNat :: us).flatMap zaN:=hb
      rw[hvt] at hb
      have:=hsv b hb
      subst this; exact .inl ⟨Nat.le_refl _,by simp⟩
    · refine ⟨_,us,rfl,by simp[us],by rw[hvt]; exact zd8 _,hcd,?_⟩
      by_cases hm:m.toNat=0
      · have hn:n.toNat=0:=by omega
        exact .inl ⟨by simp[hn],_,by rw[hn,hm]⟩
      · refine .inr ⟨w.heap.size,m.toNat,_,E,by simp,by omega,by simp; omega,by unfold maxLen; omega,by rw[hyw]; exact heap_alloc w _,by simp[madeCells],fun j c hc=>?_⟩
        have hj:=(List.getElem?_eq_some_iff.1 hc).1
        rw[zaD,List.length_replicate] at hj
        rw[zjI e z _ j hj] at hc
        obtain ⟨v,b,hv,hb,hd⟩:=zc yc _ c hc
        have hle2:n.toNat * e.size≤m.toNat * e.size:=Nat.mul_le_mul_right _ (by omega)
        refine ⟨v,b,?_,?_,hd⟩
        · rw[zki _ _ _ (by omega),hsz]
          simp only[Array.getElem?_toList] at hv
          simp[getElem!_def,hv]
        · simp only[us,List.getElem?_map,List.getElem?_range hj,Option.map_some,List.getD_eq_getElem?_getD,hb,Option.getD_some]
  refine zd7 (v := .slice (some ⟨w.heap.size,0,none⟩) n.toNat m.toNat) (w':=w.alloc (.cells (madeCells ez.cells (m.toNat * e.size)) E)) ?_ (hK _ _ _ gp ?_)
  · simp[execOp,ho,hx,hy,hr]
  · exact zbW (a := .dp (nm d)) (fun _=>⟨_,upd_same ..,by simp⟩) rfl
/-! ### Appends -/
theorem zrf {x:Cx} {t:ST} {xs:List t.El} {sv:Value} {us:List Value} (h:DeepTop x t xs sv us) :
    ∃ news,zsU x.w sv xs.length t.size news∧∀ (j:Nat) (c:Cell),(flat t xs)[j]? = some c→∃ u b,news[j]? = some u∧us[j]? = some b∧zdH x u c b:=by
  rcases h with ⟨rfl,ad,rfl⟩ | ⟨gb,cap,cur,T,rfl,k2,k3,k4,k5,k6,k7⟩
  · exact ⟨[],⟨by simp,(fun u hu=>by cases hu),.inl ⟨rfl,ad,0,rfl⟩⟩,fun j c hc=>by simp[flat] at hc⟩
  · have hle:xs.length * t.size≤cap * t.size:=Nat.mul_le_mul_right _ k3
    have hget:∀ j c,(flat t xs)[j]? = some c→∃ u b,(cur.toList.take (xs.length * t.size))[j]? = some u∧us[j]? = some b∧zdH x u c b:=fun j c hc=>by
      have hj:=(List.getElem?_eq_some_iff.1 hc).1
      rw[zaD] at hj
      obtain ⟨u,b,h1,h2,h3⟩:=k7 j c hc
      exact ⟨u,b,by rw[List.getElem?_take_of_lt hj]; simpa using h1,h2,h3⟩
    have hlen:(cur.toList.take (xs.length * t.size)).length=xs.length * t.size:=by
      have h9:cur.toList.length=cur.size:=rfl
      rw[List.length_take,h9]; omega
    refine ⟨cur.toList.take (xs.length * t.size),⟨hlen,fun u hu=>?_,.inr ⟨gb,0,cap,rfl,fun j u hj=>?_⟩⟩,hget⟩
    · obtain ⟨j,hj,rfl⟩:=List.getElem_of_mem hu
      rw[hlen] at hj
      obtain ⟨v,b,h1,_,h3⟩:=hget j _ (List.getElem?_eq_getElem (by rw[zaD]; exact hj))
      rw[List.getElem?_eq_getElem (by rw[hlen]; exact hj)] at h1
      cases h1
      exact h3.one
    · have hj':=(List.getElem?_eq_some_iff.1 hj).1
      rw[hlen] at hj'
      rw[List.getElem?_take_of_lt hj'] at hj
      rw[Nat.zero_add,cell_of_row _ _ j cur T (0,0) k5]
      simpa using hj
theorem zrZ {y:Cx} {t:ST} {xs ys:List t.El} {olds news rest ua ub:List Value} {cur:Array Value} (hc:cur.toList=olds++news++rest) (hl:olds.length=xs.length * t.size) (hn:news.length=ys.length * t.size) (hla:ua.length=xs.length * t.size)
    (h1:∀ (j:Nat) (c:Cell),(flat t xs)[j]? = some c→∃ u b,olds[j]? = some u∧ua[j]? = some b∧zdH y u c b) (h2:∀ (j:Nat) (c:Cell),(flat t ys)[j]? = some c→∃ u b,news[j]? = some u∧ub[j]? = some b∧zdH y u c b) :
    ∀ (i:Nat) (c:Cell),(flat t (xs++ys))[i]? = some c→∃ u b,cur[i]? = some u∧(ua++ub)[i]? = some b∧zdH y u c b:=by
  intro i c hi
  have hlt:=(List.getElem?_eq_some_iff.1 hi).1
  rw[zhl,List.length_append,zaD,zaD] at hlt
  rw[zhl] at hi
  rw[← Array.getElem?_toList,hc,zbN]
  by_cases h:i < olds.length
  · rw[List.getElem?_append_left (by rw[zaD]; omega)] at hi
    rw[if_pos h,List.getElem?_append_left (by omega)]; exact h1 i c hi
  · rw[List.getElem?_append_right (by rw[zaD]; omega),zaD] at hi
    rw[if_neg h,if_pos (by omega),hl,List.getElem?_append_right (by omega),hla]; exact h2 _ c hi
theorem append_deep (hL:zgU P t i) {e:ST} (he:i.elem=some e) (hcd:e.zek=true) (ho:o.op = .call { callee := .builtin .append,args:=#[x,y],argTypes:=#[t,t] }) (g:Gam C s X β a.tmps w) (d:Nat) {Kn:List Nat} {xs ys:List e.El}
    {va vb:Value} {ua ub:List Value} (hx:a.eval x=va) (hy:a.eval y=vb) (hA:DeepTop (cx C s β w) e xs va ua) (hB:DeepTop (cx C s β w) e ys vb ub) (hla:ua.length=xs.length * e.size) (hlb:ub.length=ys.length * e.size)
    (hna:((va :: ua).flatMap zaN).Nodup) (hnb:((vb :: ub).flatMap zaN).Nodup) (hdis:∀ b∈(va :: ua).flatMap zaN,b ∉ (vb :: ub).flatMap zaN)
    (hTa:∀ b∈(va :: ua).flatMap zaN,∃ k∈Kn,∃ z,β k=some z∧b∈zao z) (hTb:∀ b∈(vb :: ub).flatMap zaN,∃ k∈Kn,∃ z,β k=some z∧b∈zao z)
    (hKm:∀ k∈Kn,∃ e,look k s.ents=some e∧e.mut=true) (hmax:xs.length+ys.length≤zar)
    (hK:Goes C X o a (.one (.dp (nm d))) ((St.zaZ Kn s).push (nm d) (.deep false e (xs++ys))) K):o.wp P a w K Q:=by
  obtain ⟨inf,d',z',hi,hu,_,_,_,_,_,hel,_⟩:=hL
  obtain ⟨E,rfl,einf,ez,q1,q2,q3,q4,q5⟩:=hel e he
  obtain ⟨news,hn,hnr⟩:=zrf hB
  rw[← q2] at hn
  have hmx:xs.length+ys.length≤68719476736:=hmax
  rw[List.flatMap_cons] at hna hnb
  have na:=List.nodup_append.1 hna
  have nb:=List.nodup_append.1 hnb
  -- blocks inside
  have small:∀ b∈(va :: ua).flatMap zaN++(vb :: ub).flatMap zaN,b < w.heap.size∧∃ k∈Kn,∃ z,β k=some z∧b∈zao z:=fun b hb=>by
    have:∃ k∈Kn,∃ z,β k=some z∧b∈zao z:=(List.mem_append.1 hb).elim (hTa b) (hTb b)
    obtain ⟨k,hk,z,hz,hbz⟩:=this
    obtain ⟨e0,e1,e2⟩:=hKm k hk
    exact ⟨(g.fresh b ⟨k,e0,z,e1,e2,hz,hbz⟩).2,k,hk,z,hz,hbz⟩
  have inA:∀ b∈ua.flatMap zaN,b∈(va :: ua).flatMap zaN:=fun b hb=>by rw[List.flatMap_cons]; exact List.mem_append_right _ hb
  have inB:∀ b∈ub.flatMap zaN,b∈(vb :: ub).flatMap zaN:=fun b hb=>by rw[List.flatMap_cons]; exact List.mem_append_right _ hb
  have ndab:(ua.flatMap zaN++ub.flatMap zaN).Nodup:=List.nodup_append.2 ⟨na.2.1,nb.2.1,fun b h1 c h2 e=>by subst e; exact hdis b (inA b h1) (inB b h2)⟩
  have fm:∀ v:Value,(v :: (ua++ub)).flatMap zaN=zaN v++(ua.flatMap zaN++ub.flatMap zaN):=fun v=>by simp
  have inAB:∀ b∈ua.flatMap zaN++ub.flatMap zaN,b < w.heap.size∧∃ k∈Kn,∃ z,β k=some z∧b∈zao z:=fun b hb=>small b (by
    rcases List.mem_append.1 hb with h | h
    · exact List.mem_append_left _ (inA b h)
    · exact List.mem_append_right _ (inB b h))
  have lenAB:(ua++ub).length=(xs++ys).length * e.size:=by rw[List.length_append,List.length_append,hla,hlb,Nat.add_mul]
  have memu:∀ {us:List Value} {j:Nat} {b:Value},us[j]? = some b→∀ k∈zaN b,k∈us.flatMap zaN:=fun h k hk=>List.mem_flatMap.2 ⟨_,List.mem_of_getElem? h,hk⟩
  have fin:∀ (v:Value) (w':World),(Builtin.append_ #[t,t] o.type #[va,vb]).run P w = .ok v w'→v.oneCell'=true →
      Gam C ((St.zaZ Kn s).push (nm d) (.deep false e (xs++ys))) X (upd β (nm d) (.tuple (v :: (ua++ub)).toArray)) a.tmps w'→o.wp P a w K Q:=fun v w' hr h1 gp =>
    zd7 (zca (_ty:=o.type) ho hx hy hr) (hK _ _ _ gp (zbW (a := .dp (nm d)) (fun _=>⟨_,upd_same ..,by simp⟩) h1))
  -- in new memory
  have grow:∀ (olds:List Value) (ad:Option Addr) (cap0:Nat),va = .slice ad xs.length cap0→(Builtin.firstCells einf.size xs.length (.slice ad xs.length cap0)).run P w.drew = .ok olds.toArray w.drew→cap0 < xs.length+ys.length →
      olds.length=xs.length * e.size→(∀ (j:Nat) (c:Cell),(flat e xs)[j]? = some c→∃ u b,olds[j]? = some u∧ua[j]? = some b∧zdH (cx C s β w) u c b)→o.wp P a w K Q:=by
    intro olds ad cap0 hva hfo hg hol hor
    obtain ⟨cap',hcap,hcm',hr⟩:=zd3 (P:=P) (ty:=o.type) (w:=w) hu q1 q4 hfo hn (by omega) (by omega) (by calc (xs.length+ys.length) * einf.bytes≤68719476736 * 256:=Nat.mul_le_mul hmx q3
      _≤_:=by decide)
    rw[← hva] at hr
    have hbel:Below w.heap.size w (w.drew.alloc (.cells (olds.toArray++news.toArray++Builtin.zeroCells ez.cells (cap' - (xs.length+ys.length))) E)):=((Below.refl _ _).drew).alloc (Nat.le_refl _) _
    have hnewtop:∀ b∈zaN (.slice (some ⟨w.heap.size,0,none⟩) (xs.length+ys.length) cap'),b=w.heap.size:=fun b hb=>by
      cases cap' with
      | zero=>omega
      | succ k=>simpa [zaN] using hb
    refine fin _ _ hr rfl (g.ziu (zfq d) hKm (fun b hlt _=>hbel.block b hlt) hbel.size (Kp.of hbel g.kb) (fun b hb=>?_) (fun yc hyw=>?_))
    · have hb:b∈(Value.slice (some ⟨w.heap.size,0,none⟩) (xs.length+ys.length) cap' :: (ua++ub)).flatMap zaN:=hb
      rw[fm] at hb
      rcases List.mem_append.1 hb with hb | hb
      · have:=hnewtop b hb; subst this; exact .inl ⟨Nat.le_refl _,by simp⟩
      · exact .inr (inAB b hb).2
    · have go:∀ {u c b},zdH (cx C s β w) u c b→(∀ k∈zaN b,k < w.heap.size)→zdH yc u c b:=fun h hk=>h.go fun k hkk=>by
        rw[hyw]; exact hbel.block k (hk k hkk)
      refine ⟨_,ua++ub,rfl,lenAB,?_,hcd,.inr ⟨w.heap.size,cap',_,E,by simp,by omega,by simpa using hcap,hcm' (by unfold maxLen; omega),by rw[hyw]; exact heap_alloc w.drew _,?_,?_⟩⟩
      · rw[fm]
        refine List.nodup_append.2 ⟨zd8 _,ndab,fun b h1 c h2 e=>?_⟩
        subst e
        have:=hnewtop b h1
        have:=(inAB b h2).1
        omega
      · simp only[Array.size_append,List.size_toArray,size_zeroCells,zhI (_E:=E) q5,hn.1,hol,q2,← Nat.add_mul]; congr 1; omega
      · exact zrZ (olds:=olds) (news:=news) (rest:=(Builtin.zeroCells ez.cells (cap' - (xs.length+ys.length))).toList) (by simp) hol (by rw[hn.1,q2]) hla
          (fun j c hj=>by obtain ⟨u,b,h1,h2,h3⟩:=hor j c hj; exact ⟨u,b,h1,h2,go h3 fun k hk=>(inAB k (List.mem_append_left _ (memu h2 k hk))).1⟩)
          (fun j c hj=>by obtain ⟨u,b,h1,h2,h3⟩:=hnr j c hj; exact ⟨u,b,h1,h2,go h3 fun k hk=>(inAB k (List.mem_append_right _ (memu h2 k hk))).1⟩)
  rcases hA with ⟨rfl,ad,rfl⟩ | ⟨gb,cap,cur,T,rfl,hc0,hlc,hcm,hg,hcs,hold⟩
  · have hua:ua=[]:=List.eq_nil_of_length_eq_zero (by simpa using hla)
    by_cases h0:ys.length=0
    · have hys:ys=[]:=List.eq_nil_of_length_eq_zero h0
      subst hys
      have hub:ub=[]:=List.eq_nil_of_length_eq_zero (by simpa using hlb)
      have hr:(Builtin.append_ #[t,t] o.type #[.slice ad 0 0,vb]).run P w = .ok (.slice ad 0 0) w:=by
        obtain ⟨hf,hl⟩:=hn.first (P:=P) (w':=w) fun _ _=>rfl
        have hnn:news=[]:=List.eq_nil_of_length_eq_zero (by simpa using hn.1)
        subst hnn
        simp only[List.length_nil] at hf hl
        cases ad<;>simp[Builtin.append_,run_underlying hu,sizeOf,typeInfo,q1,hl,hf,storeCells]
      refine fin _ _ hr rfl (g.ziu (zfq d) hKm (fun _ _ _=>rfl) (Nat.le_refl _) (Kp.refl _ _) (fun b hb=>?_) (fun yc hyw=>?_))
      · subst hua; subst hub
        cases ad<;>simp[zao,zaN] at hb
      · refine ⟨_,_,rfl,lenAB,?_,hcd,.inl ⟨rfl,ad,rfl⟩⟩
        rw[fm]
        cases ad<;>simpa [zaN] using ndab
    · refine grow [] ad 0 rfl ?_ (by simp; omega) (by simp) fun j c hc=>by simp[flat] at hc
      cases ad<;>simp[Builtin.firstCells,loadCells,loadCellsFrom]
  · have hgA : gb∈zaN (.slice (some ⟨gb,0,none⟩) xs.length cap):=by cases cap with | zero=>omega | succ k=>simp[zaN]
    have hgb0:gb∈(Value.slice (some ⟨gb,0,none⟩) xs.length cap :: ua).flatMap zaN:=by rw[List.flatMap_cons]; exact List.mem_append_left _ hgA
    obtain ⟨kg,hkg,zg,hzg,hbzg⟩:=hTa gb hgb0
    have hb0:¬ C.keep gb:=by
      obtain ⟨e0,e1,e2⟩:=hKm kg hkg
      exact (g.fresh gb ⟨kg,e0,zg,e1,e2,hzg,hbzg⟩).1
    have hcl:cur.toList.length=cap * e.size:=by simpa using hcs
    have hcl2:(cur.toList.take (xs.length * einf.size)).length=xs.length * e.size:=by
      have:=Nat.mul_le_mul_right e.size hlc
      rw[List.length_take,hcl,q2]; omega
    have htopv:∀ k c,0 < c→zaN (.slice (some ⟨gb,0,none⟩) k c)=[gb]:=fun k c hc=>by cases c with | zero=>omega | succ k=>rfl
    have hor:∀ (j:Nat) (c:Cell),(flat e xs)[j]? = some c→∃ u b,(cur.toList.take (xs.length * einf.size))[j]? = some u∧ua[j]? = some b∧zdH (cx C s β w) u c b:=fun j c hj=>by
      obtain ⟨u,b,h1,h2,h3⟩:=hold j c hj
      have hjl:=(List.getElem?_eq_some_iff.1 hj).1
      rw[zaD] at hjl
      exact ⟨u,b,by rw[List.getElem?_take_of_lt (by rw[q2]; exact hjl)]; simpa using h1,h2,h3⟩
    have gnot:gb ∉ ua.flatMap zaN++ub.flatMap zaN:=fun h=>by
      rcases List.mem_append.1 h with h | h
      · exact na.2.2 gb hgA gb h rfl
      · exact hdis gb hgb0 (inB gb h)
    by_cases hroom:xs.length+ys.length≤cap
    · have hfit:xs.length * einf.size+news.length≤cur.size:=by rw[hn.1,hcs,q2,← Nat.add_mul]; exact Nat.mul_le_mul_right _ hroom
      have hr:=run_append_fits (P:=P) (_z:=ez) (ty:=o.type) hu q1 hg hn hroom hfit
      refine fin _ _ hr rfl (g.ziu (zfq d) hKm (fun k _ hnk=>setRow_other w gb k _ fun e'=>hnk kg hkg zg hzg (by rw[e']; exact hbzg)) (by simp[World.setRow]; exact Nat.le_refl _) (below_setRow hb0 _) (fun b hb=>?_) (fun yc hyw=>?_))
      · have hb:b∈(Value.slice (some ⟨gb,0,none⟩) (xs.length+ys.length) cap :: (ua++ub)).flatMap zaN:=hb
        rw[fm,htopv _ cap hc0] at hb
        rcases List.mem_append.1 hb with hb | hb
        · have:=List.mem_singleton.1 hb; subst this; exact .inr ⟨kg,hkg,zg,hzg,hbzg⟩
        · exact .inr (inAB b hb).2
      · have go:∀ {u c b},zdH (cx C s β w) u c b→(∀ k∈zaN b,k≠gb)→zdH yc u c b:=fun h hk=>h.go fun k hkk=>by
          rw[hyw]; exact setRow_other w gb k _ fun e'=>hk k hkk e'
        refine ⟨_,ua++ub,rfl,lenAB,?_,hcd,.inr ⟨gb,cap,_,T,by simp,hc0,by simpa using hroom,hcm,by rw[hyw]; exact setRow_heap w gb cur _ T (0,0) hg,?_,?_⟩⟩
        · rw[fm,htopv _ cap hc0]
          refine List.nodup_append.2 ⟨by simp,ndab,fun b h1 c h2 e=>?_⟩
          subst e
          have:=List.mem_singleton.1 h1
          subst this; exact gnot h2
        · simp only[List.size_toArray,List.length_append,List.length_take,List.length_drop,Array.length_toList]; omega
        · exact zrZ (olds:=cur.toList.take (xs.length * einf.size)) (news:=news) (rest:=cur.toList.drop (xs.length * einf.size+news.length)) rfl hcl2 (by rw[hn.1,q2]) hla
            (fun j c hj=>by obtain ⟨u,b,h1,h2,h3⟩:=hor j c hj; exact ⟨u,b,h1,h2,go h3 fun k hk e'=>gnot (by rw[← e']; exact List.mem_append_left _ (memu h2 k hk))⟩)
            (fun j c hj=>by obtain ⟨u,b,h1,h2,h3⟩:=hnr j c hj; exact ⟨u,b,h1,h2,go h3 fun k hk e'=>gnot (by rw[← e']; exact List.mem_append_right _ (memu h2 k hk))⟩)
    · obtain ⟨newo,hno,hnor⟩:=zrf (x:=cx C s β w) (t:=e) (xs:=xs) (us:=ua) (sv := .slice (some ⟨gb,0,none⟩) xs.length cap) (.inr ⟨gb,cap,cur,T,rfl,hc0,hlc,hcm,hg,hcs,hold⟩)
      rw[← q2] at hno
      refine grow newo _ cap rfl (hno.first (P:=P) (w':=w.drew) fun _ _=>rfl).1 (by omega) (by rw[hno.1,q2]) hnor
end
end Go.Di
open Go.RowKit (Below)
namespace Go.Di
def Susp.Yields {α:Type}:Susp α→α→Prop
  | .fail,_=>False
  | .ret a,b=>a=b
  | .ask x f,b=>∃ r,x=some r∧f r=b
theorem zop {α β:Type} {s:Susp α} {k:α→Option β} {r:β} (h:s.zuP k=some r):∃ a,s.Yields a∧k a=some r:=by
  cases s with
  | fail=>cases h
  | ret a=>exact ⟨a,rfl,h⟩
  | ask x f =>
    cases x with
    | none=>simp[Susp.zuP] at h
    | some y=>simp[Susp.zuP] at h; exact ⟨f y,⟨y,rfl,rfl⟩,h⟩
def zaj (P:Program) (F:Nat→Option (Array Value→Prop)) (cons:List (FuncId × Con)):Prop:=∀ f c,Nat.blt f zJo=true→(zhn f cons=some c∨zhn (f+zJo) cons=some c)→zav P F f c∧Callable P f
theorem zaj.of {P:Program} {F:Nat→Option (Array Value→Prop)} {cons:List (FuncId × Con)} (h:zaj P F cons) {s:St} {f:FuncId} {avs:List AV} {c:Con} (hc:conFor s f avs cons=some c):zav P F f c∧Callable P f:=by
  unfold conFor at hc
  split at hc
  · rename_i hlt
    split at hc
    · split at hc
      · rename_i h1; cases hc; exact h f _ hlt (.inr h1)
      · exact h f c hlt (.inl hc)
    · exact h f c hlt (.inl hc)
  · cases hc
section
variable {P:Program} {C:Bs} {w w':World} {s s':St} {X:Nat→Prop} {β β':Nat→Option Value} {a:Act} {o:Oper} {tm:Array Value}
  {t:TypeId} {x y:Operand} {i:TI} {K:Act→World→Prop} {Q:Exit→Act→World→Prop} {lay:List (TypeId × TI)} {cons:List (FuncId × Con)} {av:AV}
theorem zco {v:AV} {b:A1} (h:addrOf v=some b):v = .v false [b]:=by
  unfold addrOf at h; split at h
  · cases h; rfl
  · cases h
theorem sound_load (hL:zcF P lay) (ho:o.op = .load t x) (g:Gam C s X β a.tmps w) (hx:zaS (cx C s β w) (zaX s x) (a.eval x)) (hy:(evalOp lay cons o s).Yields (av,s')) (hK:Goes C X o a av s' K):o.wp P a w K Q:=by
  simp only[evalOp,ho] at hy
  split at hy
  · rename_i i b hi hb
    have hT:=hL t i hi
    rw[zco hb] at hx
    unfold loadOp at hy
    split at hy
    · split at hy
      · rename_i l hl
        split at hy
        · rename_i c hw
          cases hy; exact zKK hT ho g hl hx hw hK
        · exact hy.elim
      · exact hy.elim
    · split at hy
      · rename_i c hw
        cases hy; exact zKI hT ho g hx hw hK
      · exact hy.elim
    · split at hy
      · rename_i fr u xs hl
        split at hy
        · rename_i hle
          obtain ⟨e,he,hr⟩:=hy
          cases hr
          exact zKJ hT ho g hl hx (Nat.le_of_ble_eq_true hle) he hK
        · exact hy.elim
      · exact hy.elim
    · split at hy
      · rename_i u xs hl
        split at hy
        · rename_i hle
          obtain ⟨e,he,hr⟩:=hy
          cases hr
          exact load_de hT ho g hl hx (Nat.le_of_ble_eq_true hle) he hK
        · exact hy.elim
      · exact hy.elim
    · exact hy.elim
  · exact hy.elim
theorem zQp (e:Ent):frz (frz e)=frz e:=by cases e<;>rfl
theorem zFl (n:Nat) (a:A1) (es:List (Nat × Ent)):look n (a.freeze es)=look n es∨look n (a.freeze es)=(look n es).map frz:=by
  have f1:∀ m,look n (freeze1 m es)=look n es∨look n (freeze1 m es)=(look n es).map frz:=fun m=>by
    rw[look_freeze1]; split
    · exact .inr rfl
    · exact .inl rfl
  cases a<;>first | exact .inl rfl | exact f1 _
theorem zkk (n:Nat):∀ (l:List A1) (es:List (Nat × Ent)),look n (zat l es)=look n es∨look n (zat l es)=(look n es).map frz
  | [],es => .inl rfl
  | a :: r,es=>by
    have h2:=zkk n r (a.freeze es)
    have h1:=zFl n a es
    have hm:((look n es).map frz).map frz=(look n es).map frz:=by cases look n es with
      | none=>rfl
      | some e=>simp[zQp]
    rcases h1 with h1 | h1<;>rcases h2 with h2 | h2
    · exact .inl (h2.trans h1)
    · exact .inr (h2.trans (by rw[h1]))
    · exact .inr (h2.trans h1)
    · exact .inr (h2.trans (by rw[h1,hm]))
theorem zuv {n:Nat} {e:Ent}:∀ (l:List A1) (es:List (Nat × Ent)) {b:A1},b∈l→b.zhQ n→look n (zat l es)=some e→frz e=e
  | a :: r,es,b,hb,hn,h=>by
    rcases List.mem_cons.1 hb with rfl | hb
    · have h1:look n (b.freeze es)=(look n es).map frz:=by
        have f1:∀ m,m=n→look n (freeze1 m es)=(look n es).map frz:=fun m hm=>by rw[look_freeze1,if_pos hm.symm]
        cases b<;>first | exact hn.elim | exact f1 _ hn
      have h:look n (zat r (b.freeze es))=some e:=h
      rcases zkk n r (b.freeze es) with h2 | h2<;>rw[h,h1] at h2
      all_goals
        cases hl:look n es with
        | none=>rw[hl] at h2; cases h2
        | some f=>rw[hl] at h2; simp only[Option.map_some,Option.some.injEq] at h2; subst h2; simp only[zQp]
    · exact zuv r (a.freeze es) hb hn h
theorem zuu {n:Nat} {fr:Bool} {t:ST} {xs:List t.El} (l:List A1) (es:List (Nat × Ent)) {b:A1} (hb:b∈l) (hn:b.zhQ n) (h:look n (zat l es)=some (.arr fr t xs)):fr=true:=by
  have:=zuv l es hb hn h
  simp only[frz,Ent.arr.injEq] at this
  exact this.1.symm
theorem zpa {n:Nat} {fr:Bool} {t:ST} {xs:List t.El} (l:List A1) (es:List (Nat × Ent)) {b:A1} (hb:b∈l) (hn:b.zhQ n) (h:look n (zat l es)=some (.deep fr t xs)):fr=true:=by
  have:=zuv l es hb hn h
  simp only[frz,Ent.deep.injEq] at this
  exact this.1.symm
theorem zJN {b:A1} {es es':List (Nat × Ent)} (he:∀ n,look n es'=look n es∨look n es'=(look n es).map frz) {c:CK} {y:c.ty} (h:b.as es c=some y):b.as es' c=some y:=by
  have step:∀ n (f:Option Ent→Option c.ty),(∀ e,f (some (frz e))=f (some e))→f (look n es)=some y→f (look n es')=some y:=fun n f hf hy=>by
    rcases he n with h1 | h1
    · rw[h1]; exact hy
    · rw[h1]
      cases hl:look n es with
      | none=>rw[hl] at hy; exact hy
      | some e=>rw[hl] at hy; exact (hf e).trans hy
  cases b with
  | bot=>cases c<;>cases h
  | lp _ _=>cases c<;>cases h
  | sp _ _=>cases c<;>cases h
  | fn _ _=>cases c<;>cases h
  | oe _ _ _=>cases c<;>cases h
  | de _ _ _=>cases c<;>cases h
  | d d=>cases c<;>exact h
  | mt=>cases c<;>exact h
  | own n =>
    cases c with
    | sl t=>exact step n (fun o=>match o with | some (.arr _ u xs)=>ST.cast u t xs | _=>none) (fun e=>by cases e<;>rfl) h
    | _=>cases h
  | win n lo len =>
    cases c with
    | sl t=>exact step n (fun o=>match o with | some (.arr _ u xs)=>ST.cast u t (cut xs lo (lo+len)) | _=>none) (fun e=>by cases e<;>rfl) h
    | _=>cases h
  | dp n =>
    cases c with
    | sl t=>exact step n (fun o=>match o with | some (.deep _ u xs)=>ST.cast u t xs | _=>none) (fun e=>by cases e<;>rfl) h
    | _=>cases h
  | dc n i off ys =>
    cases c with
    | sl t=>exact step n (fun o=>match o with | some (.deep _ _ _)=>ST.cast .int t ys | _=>none) (fun e=>by cases e<;>rfl) h
    | _=>cases h
theorem zn8 (n:Nat):Le (cx C s β w) (cx C ⟨s.env,Go.Di.freeze1 n s.ents⟩ β w) fun _=>True:=by
  refine ⟨fun _ h=>h,fun _ _ _=>rfl,Nat.le_refl _,fun b _ _ h=>?_,fun m _=>?_,fun m _ _ fr t xs h=>(zgI h).elim fun f hf=>⟨f,hf,rfl⟩,fun _ _ h=>h⟩
  · obtain ⟨m,e,v,h1,h2,h3,h4⟩:=h
    simp only[cx,look_freeze1] at h1
    split at h1
    · cases hl:look m s.ents with
      | none=>simp[hl] at h1
      | some f=>simp[hl] at h1; subst h1; exact ⟨m,f,v,hl,by cases f<;>simp_all [frz,Ent.mut],h3,h4⟩
    · exact ⟨m,e,v,h1,h2,h3,h4⟩
  · simp only[cx,look_freeze1]
    split
    · cases hl:look m s.ents with
      | none=>left; simp
      | some f =>
        right; left; refine ⟨trivial,?_⟩
        cases f with
        | box l=>left; simp[frz]
        | pool k=>left; simp[frz]
        | deep fr t xs=>right; right; right; exact ⟨fr,true,t,xs,by simp,by simp[frz]⟩
        | arr fr t xs=>right; right; left; exact ⟨fr,true,t,xs,xs,by simp,by simp[frz],rfl⟩
    · exact .inr (.inl ⟨trivial,.inl rfl⟩)
theorem zeV {b:A1} {v:Value}:∀ (l:List A1) (s:St),A1Ok (cx C s β w) b v→A1Ok (cx C ⟨s.env,zat l s.ents⟩ β w) b v
  | [],s,h=>h
  | a :: r,s,h=>by
    have h1:A1Ok (cx C ⟨s.env,a.freeze s.ents⟩ β w) b v:=by
      cases a<;>simp only[A1.freeze]<;>first | exact h | exact (zn8 _).a1 (by cases b<;>trivial) h
    exact zeV r ⟨s.env,a.freeze s.ents⟩ h1
theorem as_stored (g:Gam C s X β tm w) {l:List A1}:∀ {ks:List CK} {m:List A1} {x:Tys ks} {vs:List Value},(∀ b∈m,b∈l)→zcm (cx C s β w) m vs→asTys s.ents ks m=some x →
    ∀ (k:Nat) (c:Cell),(Tys.cells ks x)[k]? = some c→∃ v,vs[k]? = some v∧(cx C ⟨s.env,zat l s.ents⟩ β w).rd v c
  | [],[],_,_,_,_,_,k,c,h=>by simp[Tys.cells] at h
  | ck :: ks,b :: m,x,v :: vs,hm,⟨h1,h2,h3⟩,h,k,c,hk=>by
    obtain ⟨q1,q2⟩:=zkT h
    cases k with
    | zero =>
      simp only[Tys.cells,List.getElem?_cons_zero,Option.some.injEq] at hk; subst hk
      refine ⟨v,rfl,?_⟩
      have gf:=g.zat l
      have h1':=zeV l s h1
      have hbm:=hm b (List.mem_cons_self ..)
      have q1':b.as (zat l s.ents) ck=some x.1:=zJN (fun n=>zkk n l s.ents) q1
      have harg:=as_arg gf h1' q1' (old:=fun k=>k < w.heap.size∧¬ Top (cx C ⟨s.env,zat l s.ents⟩ β w).lk β k∧(cx C ⟨s.env,zat l s.ents⟩ β w).av k) (fun b hb ht hav=>⟨hb,ht,hav⟩)
        (fun n fr t xs u hb hl hu hf=>by
          have:=zuu l s.ents hbm hb hl
          rw[hf] at this; cases this)
        (fun n t xs u hb hl _=>by have:=zpa l s.ents hbm hb hl; cases this)
      obtain ⟨fp,r1,r2⟩:=harg
      exact ⟨fp,r1,fun b hb=>⟨(r2 b hb).1,(r2 b hb).2.2.2.1,(r2 b hb).2.2.2.2⟩⟩
    | succ k =>
      simp only[Tys.cells,List.getElem?_cons_succ] at hk
      simpa using as_stored g (fun b hb=>hm b (List.mem_cons_of_mem _ hb)) h3 q2 k c hk
  | [],_ :: _,_,_,_,_,h,_,_,_=>by cases h
  | _ :: _,[],_,_,_,_,h,_,_,_=>by cases h
  | _ :: _,_ :: _,_,[],_,h,_,_,_,_=>h.elim
theorem zlP {es:List (Nat × Ent)}:∀ {ks:List CK} {l:List A1} {x:Tys ks},asTys es ks l=some x→l.length=ks.length
  | [],[],_,_=>rfl
  | c :: ks,b :: l,x,h=>by simp[zlP (zkT h).2]
  | [],_ :: _,_,h=>by cases h
  | _ :: _,[],_,h=>by cases h
theorem zqO (t:ST):t.kinds.length=t.size:=by cases t<;>rfl
theorem zKj (g:Gam C s X β tm w) {l:List A1} {b:A1} {v:Value} (hb:b∈l) (h1:A1Ok (cx C s β w) b v) {ck:CK} {z:ck.ty} (q1:b.as s.ents ck=some z) :
    (cx C ⟨s.env,zat l s.ents⟩ β w).rd v (ck.cell z):=by
  have gf:=g.zat l
  have h1':=zeV l s h1
  have q1':b.as (zat l s.ents) ck=some z:=zJN (fun n=>zkk n l s.ents) q1
  have harg:=as_arg gf h1' q1' (old:=fun k=>k < w.heap.size∧¬ Top (cx C ⟨s.env,zat l s.ents⟩ β w).lk β k∧(cx C ⟨s.env,zat l s.ents⟩ β w).av k) (fun b hb ht hav=>⟨hb,ht,hav⟩)
    (fun n fr t xs u hbn hl hu hf=>by
      have:=zuu l s.ents hb hbn hl
      rw[hf] at this; cases this)
    (fun n t xs u hbn hl _=>by have:=zpa l s.ents hb hbn hl; cases this)
  obtain ⟨fp,r1,r2⟩:=harg
  exact ⟨fp,r1,fun b hb=>⟨(r2 b hb).1,(r2 b hb).2.2.2.1,(r2 b hb).2.2.2.2⟩⟩
theorem part_sound (hT:zgU P t i) (ho:o.op = .store t x y) (g:Gam C s X β a.tmps w) {n j off:Nat} {c:List A1}
    (hx:zaS (cx C s β w) (.v false [.oe n j off]) (a.eval x)) (hcv:zcm (cx C s β w) c (a.eval y).cells.toList) (hlen:(a.eval y).cells.size=i.zero.length)
    (hy:(zgE s n j off c).Yields (av,s')) (hK:Goes C X o a av s' K):o.wp P a w K Q:=by
  have hcl:=hcv.length
  simp only[Array.length_toList] at hcl
  unfold zgE at hy
  split at hy
  · rename_i u xs hl
    obtain ⟨e',he,hr⟩:=hy
    cases hr
    cases hj:xs[j]? with
    | none=>rw[hj] at he; cases he
    | some e =>
      rw[hj,Option.bind_some] at he
      split at he
      · rename_i l hp
        obtain ⟨xt,q1,rfl⟩:=zhY he
        obtain ⟨p1,p2⟩:=zfJ _ _ _ _ hp
        rw[zc2,zan] at p1
        have gf:=g.zat c
        have hx':zaS (cx C ⟨s.env,zat c s.ents⟩ β w) (.v false [.oe n j off]) (a.eval x):=by
          obtain ⟨a1,e1,e2,e3⟩:=hx; cases e1; exact ⟨_,rfl,zeV c s e2,e3⟩
        have hlt:((zbO (u.cells e)).take off).length=off:=by rw[List.length_take,zc2,zan]; omega
        refine store_pe hT ho gf hl hx' hlen (by omega) hj (fun k cc hk hout=>?_) (fun k cc hlt' hk=>?_) hcv.one hK
        · rw [ze4] at hk
          obtain ⟨b,ck,z,h1,h2,rfl⟩:=zf1 q1 k cc hk
          have hb:(zbO (u.cells e))[k]? = some b:=by
            rw[p2,zbN,hlt] at h1
            rcases hout with h | h
            · rw[if_pos h,List.getElem?_take_of_lt h] at h1; exact h1
            · rw[if_neg (by omega),if_neg (by omega),List.getElem?_drop,show off+c.length+(k - off - c.length)=k from by omega] at h1; exact h1
          rw[zkp] at hb
          cases hc:(u.cells e)[k]? with
          | none=>rw[hc] at hb; cases hb
          | some c0 =>
            rw[hc] at hb
            simp only[Option.map_some,Option.some.injEq] at hb
            subst hb
            have h2:ck.get c0=some z:=by cases ck<;>exact h2
            rw[zfx h2]
        · rw[ze4] at hk
          obtain ⟨b,ck,z,h1,h2,rfl⟩:=zf1 q1 _ cc hk
          rw[p2,zbN,hlt,if_neg (by omega),if_pos (by omega),show off+k - off=k from by omega] at h1
          obtain ⟨v,hv,hok,_⟩:=hcv.get h1
          exact ⟨v,by simpa using hv,zKj g (List.mem_of_getElem? h1) hok h2⟩
      · cases he
  · exact hy.elim
theorem deep_sound (hT:zgU P t i) (ho:o.op = .store t x y) (g:Gam C s X β a.tmps w) {n j off:Nat} {c:List A1}
    (hx:zaS (cx C s β w) (.v false [.de n j off]) (a.eval x)) (hcv:zcm (cx C s β w) c (a.eval y).cells.toList) (hlen:(a.eval y).cells.size=i.zero.length)
    (hy:(deepStore s n j off c).Yields (av,s')) (hK:Goes C X o a av s' K):o.wp P a w K Q:=by
  unfold deepStore at hy
  split at hy
  · rename_i u xs K0 hl habs
    split at hy
    · rename_i hcond
      obtain ⟨e',he,hr⟩:=hy
      cases hr
      cases hj:xs[j]? with
      | none=>rw[hj] at he; cases he
      | some e =>
        rw[hj,Option.bind_some] at he
        split at he
        · rename_i l hp
          have hc2:zdX K0=true∧(n % 64=63→zyW c=true):=by
            cases h1:zdX K0 with
            | false=>rw[h1] at hcond; cases hcond
            | true =>
              refine ⟨rfl,fun h63=>?_⟩
              rw[h1,h63] at hcond
              exact hcond
          refine store_de hT ho g hl habs (ze9 hc2.1) hc2.2 hx hcv hlen hj hp he ?_
          rw[zhS]
          exact hK
        · cases he
    · exact hy.elim
  · exact hy.elim
theorem sound_store (hL:zcF P lay) (ho:o.op = .store t x y) (hd:o.dst=none) (g:Gam C s X β a.tmps w) (hx:zaS (cx C s β w) (zaX s x) (a.eval x)) (hy':zaS (cx C s β w) (zaX s y) (a.eval y))
    (hy:(evalOp lay cons o s).Yields (av,s')) (hK:Goes C X o a av s' K):o.wp P a w K Q:=by
  simp only[evalOp,ho] at hy
  split at hy
  · rename_i i b c hi hb hc
    have hT:=hL t i hi
    rw[zco hb] at hx
    split at hy
    · rename_i hlen
      have hlen:c.length=i.zero.length:=by simpa using hlen
      obtain ⟨hcv,_⟩:=zh1 hy' hc
      have hcl:=hcv.length
      simp only[Array.length_toList] at hcl
      unfold storeOp at hy
      split at hy
      · split at hy
        · rename_i l hl
          split at hy
          · rename_i l' hp
            cases hy; exact zEH hT ho hd g hl hx hy' hc hlen hp hK
          · exact hy.elim
        · exact hy.elim
      · rename_i n j
        split at hy
        · rename_i u xs hl
          split at hy
          · rename_i hsz
            have hsz:c.length=u.size:=by simpa using hsz
            split at hy
            · rename_i e he
              cases hy
              obtain ⟨xt,q1,rfl⟩:=zhY he
              have gf:=g.zat c
              have hx':zaS (cx C ⟨s.env,zat c s.ents⟩ β w) (.v false [.oe n j 0]) (a.eval x):=by
                obtain ⟨a1,e1,e2,e3⟩:=hx; cases e1; exact ⟨_,rfl,zeV c s e2,e3⟩
              exact zEG hT ho gf hl hx' (by omega) (by omega) (fun k cc hk=>by
                  rw[ze4] at hk
                  obtain ⟨v,h1,h2⟩:=as_stored g (l:=c) (fun b hb=>hb) hcv q1 k cc hk
                  exact ⟨v,by simpa using h1,h2⟩) hcv.one hK
            · exact hy.elim
          · exact part_sound hT ho g hx hcv (by omega) hy hK
        · exact hy.elim
      · exact part_sound hT ho g hx hcv (by omega) hy hK
      · exact deep_sound hT ho g hx hcv (by omega) hy hK
      · exact hy.elim
    · exact hy.elim
  · exact hy.elim
end
end Go.Di
