/-
  Own work: part 3 of the texts that the proof of the given statement leans on.
-/
import Derived.Laws.BytesArg
import Derived.Tactics
import Derived.Test.YtemlaciidfaceaaGreatZD01
noncomputable section
open Go.RowKit (Below)
namespace Go.Di
def Susp.Yields {α:Type}:Susp α→α→Prop
  | .fail,_=>False
  | .ret a,b=>a=b
  | .ask x f,b=>∃ r,x=some r∧f r=b
theorem zo9 {α β:Type} {s:Susp α} {k:α→Option β} {r:β} (h:s.zvH k=some r):∃ a,s.Yields a∧k a=some r:=by
  cases s with
  | fail=>cases h
  | ret a=>exact ⟨a,rfl,h⟩
  | ask x f =>
    cases x with
    | none=>simp[Susp.zvH] at h
    | some y=>simp[Susp.zvH] at h; exact ⟨f y,⟨y,rfl,rfl⟩,h⟩
def zaj (P:Program) (F:Nat→Option (Array Value→Prop)) (cons:List (FuncId × Con)):Prop:=∀ f c,Nat.blt f zNu=true→(zhy f cons=some c∨zhy (f+zNu) cons=some c)→zaw P F f c∧Callable P f
theorem zaj.of {P:Program} {F:Nat→Option (Array Value→Prop)} {cons:List (FuncId × Con)} (h:zaj P F cons) {s:St} {f:FuncId} {avs:List AV} {c:Con} (hc:conFor s f avs cons=some c):zaw P F f c∧Callable P f:=by
  unfold conFor at hc
  split at hc
  · rename_i hlt
    split at hc
    · split at hc
      · rename_i h1; cases hc; exact h f _ hlt (.inr h1)
      · exact h f c hlt (.inl hc)
    · exact h f c hlt (.inl hc)
  · cases hc
section
variable {P:Program} {C:Bs} {w w':World} {s s':St} {X:Nat→Prop} {β β':Nat→Option Value} {a:Act} {o:Oper} {tm:Array Value}
  {t:TypeId} {x y:Operand} {i:TI} {K:Act→World→Prop} {Q:Exit→Act→World→Prop} {lay:List (TypeId × TI)} {cons:List (FuncId × Con)} {av:AV}
theorem zcn {v:AV} {b:A1} (h:addrOf v=some b):v = .v false [b]:=by
  unfold addrOf at h; split at h
  · cases h; rfl
  · cases h
theorem sound_load (hL:zcC P lay) (ho:o.op = .load t x) (g:Gam C s X β a.tmps w) (hx:zaR (cx C s β w) (zaW s x) (a.eval x)) (hy:(evalOp lay cons o s).Yields (av,s')) (hK:Goes C X o a av s' K):o.wp P a w K Q:=by
  simp only[evalOp,ho] at hy
  split at hy
  · rename_i i b hi hb
    have hT:=hL t i hi
    rw[zcn hb] at hx
    unfold loadOp at hy
    split at hy
    · split at hy
      · rename_i l hl
        split at hy
        · rename_i c hw
          cases hy; exact zLD hT ho g hl hx hw hK
        · exact hy.elim
      · exact hy.elim
    · split at hy
      · rename_i c hw
        cases hy; exact zLB hT ho g hx hw hK
      · exact hy.elim
    · split at hy
      · rename_i fr u xs hl
        split at hy
        · rename_i hle
          obtain ⟨e,he,hr⟩:=hy
          cases hr
          exact zLC hT ho g hl hx (Nat.le_of_ble_eq_true hle) he hK
        · exact hy.elim
      · exact hy.elim
    · split at hy
      · rename_i u xs hl
        split at hy
        · rename_i hle
          obtain ⟨e,he,hr⟩:=hy
          cases hr
          exact load_de hT ho g hl hx (Nat.le_of_ble_eq_true hle) he hK
        · exact hy.elim
      · exact hy.elim
    · exact hy.elim
  · exact hy.elim
theorem zRe (e:Ent):frz (frz e)=frz e:=by cases e<;>rfl
theorem zGq (n:Nat) (a:A1) (es:List (Nat × Ent)):look n (a.freeze es)=look n es∨look n (a.freeze es)=(look n es).map frz:=by
  have f1:∀ m,look n (freeze1 m es)=look n es∨look n (freeze1 m es)=(look n es).map frz:=fun m=>by
    rw[look_freeze1]; split
    · exact .inr rfl
    · exact .inl rfl
  cases a<;>first | exact .inl rfl | exact f1 _
theorem zkP (n:Nat):∀ (l:List A1) (es:List (Nat × Ent)),look n (zau l es)=look n es∨look n (zau l es)=(look n es).map frz
  | [],es => .inl rfl
  | a :: r,es=>by
    have h2:=zkP n r (a.freeze es)
    have h1:=zGq n a es
    have hm:((look n es).map frz).map frz=(look n es).map frz:=by cases look n es with
      | none=>rfl
      | some e=>simp[zRe]
    rcases h1 with h1 | h1<;>rcases h2 with h2 | h2
    · exact .inl (h2.trans h1)
    · exact .inr (h2.trans (by rw[h1]))
    · exact .inr (h2.trans h1)
    · exact .inr (h2.trans (by rw[h1,hm]))
theorem zvm {n:Nat} {e:Ent}:∀ (l:List A1) (es:List (Nat × Ent)) {b:A1},b∈l→b.zic n→look n (zau l es)=some e→frz e=e
  | a :: r,es,b,hb,hn,h=>by
    rcases List.mem_cons.1 hb with rfl | hb
    · have h1:look n (b.freeze es)=(look n es).map frz:=by
        have f1:∀ m,m=n→look n (freeze1 m es)=(look n es).map frz:=fun m hm=>by rw[look_freeze1,if_pos hm.symm]
        cases b<;>first | exact hn.elim | exact f1 _ hn
      have h:look n (zau r (b.freeze es))=some e:=h
      rcases zkP n r (b.freeze es) with h2 | h2<;>rw[h,h1] at h2
      all_goals
        cases hl:look n es with
        | none=>rw[hl] at h2; cases h2
        | some f=>rw[hl] at h2; simp only[Option.map_some,Option.some.injEq] at h2; subst h2; simp only[zRe]
    · exact zvm r (a.freeze es) hb hn h
theorem zvl {n:Nat} {fr:Bool} {t:ST} {xs:List t.El} (l:List A1) (es:List (Nat × Ent)) {b:A1} (hb:b∈l) (hn:b.zic n) (h:look n (zau l es)=some (.arr fr t xs)):fr=true:=by
  have:=zvm l es hb hn h
  simp only[frz,Ent.arr.injEq] at this
  exact this.1.symm
theorem zp3 {n:Nat} {fr:Bool} {t:ST} {xs:List t.El} (l:List A1) (es:List (Nat × Ent)) {b:A1} (hb:b∈l) (hn:b.zic n) (h:look n (zau l es)=some (.deep fr t xs)):fr=true:=by
  have:=zvm l es hb hn h
  simp only[frz,Ent.deep.injEq] at this
  exact this.1.symm
theorem zKL {b:A1} {es es':List (Nat × Ent)} (he:∀ n,look n es'=look n es∨look n es'=(look n es).map frz) {c:CK} {y:c.ty} (h:b.as es c=some y):b.as es' c=some y:=by
  have step:∀ n (f:Option Ent→Option c.ty),(∀ e,f (some (frz e))=f (some e))→f (look n es)=some y→f (look n es')=some y:=fun n f hf hy=>by
    rcases he n with h1 | h1
    · rw[h1]; exact hy
    · rw[h1]
      cases hl:look n es with
      | none=>rw[hl] at hy; exact hy
      | some e=>rw[hl] at hy; exact (hf e).trans hy
  cases b with
  | bot=>cases c<;>cases h
  | lp _ _=>cases c<;>cases h
  | sp _ _=>cases c<;>cases h
  | fn _ _=>cases c<;>cases h
  | oe _ _ _=>cases c<;>cases h
  | de _ _ _=>cases c<;>cases h
  | d d=>cases c<;>exact h
  | mt=>cases c<;>exact h
  | own n =>
    cases c with
    | sl t=>exact step n (fun o=>match o with | some (.arr _ u xs)=>ST.cast u t xs | _=>none) (fun e=>by cases e<;>rfl) h
    | _=>cases h
  | win n lo len =>
    cases c with
    | sl t=>exact step n (fun o=>match o with | some (.arr _ u xs)=>ST.cast u t (cut xs lo (lo+len)) | _=>none) (fun e=>by cases e<;>rfl) h
    | _=>cases h
  | dp n =>
    cases c with
    | sl t=>exact step n (fun o=>match o with | some (.deep _ u xs)=>ST.cast u t xs | _=>none) (fun e=>by cases e<;>rfl) h
    | _=>cases h
  | dc n i off ys =>
    cases c with
    | sl t=>exact step n (fun o=>match o with | some (.deep _ .rats _)=>none | some (.deep _ _ _)=>ST.cast .int t ys | _=>none) (fun e=>by
      cases e with
      | deep fr u xs=>cases u<;>rfl
      | _=>rfl) h
    | _=>cases h
theorem zoT (n:Nat):Le (cx C s β w) (cx C ⟨s.env,Go.Di.freeze1 n s.ents⟩ β w) fun _=>True:=by
  refine ⟨fun _ h=>h,fun _ _ _=>rfl,Nat.le_refl _,fun b _ _ h=>?_,fun m _=>?_,fun m _ _ fr t xs h=>(zgO h).elim fun f hf=>⟨f,hf,rfl⟩,fun _ _ h=>h⟩
  · obtain ⟨m,e,v,h1,h2,h3,h4⟩:=h
    simp only[cx,look_freeze1] at h1
    split at h1
    · cases hl:look m s.ents with
      | none=>simp[hl] at h1
      | some f=>simp[hl] at h1; subst h1; exact ⟨m,f,v,hl,by cases f<;>simp_all [frz,Ent.mut],h3,h4⟩
    · exact ⟨m,e,v,h1,h2,h3,h4⟩
  · simp only[cx,look_freeze1]
    split
    · cases hl:look m s.ents with
      | none=>left; simp
      | some f =>
        right; left; refine ⟨trivial,?_⟩
        cases f with
        | box l=>left; simp[frz]
        | pool k=>left; simp[frz]
        | deep fr t xs=>right; right; right; exact ⟨fr,true,t,xs,by simp,by simp[frz]⟩
        | arr fr t xs=>right; right; left; exact ⟨fr,true,t,xs,xs,by simp,by simp[frz],rfl⟩
    · exact .inr (.inl ⟨trivial,.inl rfl⟩)
theorem zeW {b:A1} {v:Value}:∀ (l:List A1) (s:St),A1Ok (cx C s β w) b v→A1Ok (cx C ⟨s.env,zau l s.ents⟩ β w) b v
  | [],s,h=>h
  | a :: r,s,h=>by
    have h1:A1Ok (cx C ⟨s.env,a.freeze s.ents⟩ β w) b v:=by
      cases a<;>simp only[A1.freeze]<;>first | exact h | exact (zoT _).a1 (by cases b<;>trivial) h
    exact zeW r ⟨s.env,a.freeze s.ents⟩ h1
theorem as_stored (g:Gam C s X β tm w) {l:List A1}:∀ {ks:List CK} {m:List A1} {x:Tys ks} {vs:List Value},(∀ b∈m,b∈l)→zck (cx C s β w) m vs→asTys s.ents ks m=some x →
    ∀ (k:Nat) (c:Cell),(Tys.cells ks x)[k]? = some c→∃ v,vs[k]? = some v∧(cx C ⟨s.env,zau l s.ents⟩ β w).rd v c
  | [],[],_,_,_,_,_,k,c,h=>by simp[Tys.cells] at h
  | ck :: ks,b :: m,x,v :: vs,hm,⟨h1,h2,h3⟩,h,k,c,hk=>by
    obtain ⟨q1,q2⟩:=zlo h
    cases k with
    | zero =>
      simp only[Tys.cells,List.getElem?_cons_zero,Option.some.injEq] at hk; subst hk
      refine ⟨v,rfl,?_⟩
      have gf:=g.zau l
      have h1':=zeW l s h1
      have hbm:=hm b (List.mem_cons_self ..)
      have q1':b.as (zau l s.ents) ck=some x.1:=zKL (fun n=>zkP n l s.ents) q1
      have harg:=as_arg gf h1' q1' (old:=fun k=>k < w.heap.size∧¬ Top (cx C ⟨s.env,zau l s.ents⟩ β w).lk β k∧(cx C ⟨s.env,zau l s.ents⟩ β w).av k) (fun b hb ht hav=>⟨hb,ht,hav⟩)
        (fun n fr t xs u hb hl hu hf=>by
          have:=zvl l s.ents hbm hb hl
          rw[hf] at this; cases this)
        (fun n t xs u hb hl _=>by have:=zp3 l s.ents hbm hb hl; cases this)
      obtain ⟨fp,r1,r2⟩:=harg
      exact ⟨fp,r1,fun b hb=>⟨(r2 b hb).1,(r2 b hb).2.2.2.1,(r2 b hb).2.2.2.2⟩⟩
    | succ k =>
      simp only[Tys.cells,List.getElem?_cons_succ] at hk
      simpa using as_stored g (fun b hb=>hm b (List.mem_cons_of_mem _ hb)) h3 q2 k c hk
  | [],_ :: _,_,_,_,_,h,_,_,_=>by cases h
  | _ :: _,[],_,_,_,_,h,_,_,_=>by cases h
  | _ :: _,_ :: _,_,[],_,h,_,_,_,_=>h.elim
theorem zmj {es:List (Nat × Ent)}:∀ {ks:List CK} {l:List A1} {x:Tys ks},asTys es ks l=some x→l.length=ks.length
  | [],[],_,_=>rfl
  | c :: ks,b :: l,x,h=>by simp[zmj (zlo h).2]
  | [],_ :: _,_,h=>by cases h
  | _ :: _,[],_,h=>by cases h
theorem zrP (t:ST):t.kinds.length=t.size:=by cases t<;>rfl
theorem zLa (g:Gam C s X β tm w) {l:List A1} {b:A1} {v:Value} (hb:b∈l) (h1:A1Ok (cx C s β w) b v) {ck:CK} {z:ck.ty} (q1:b.as s.ents ck=some z) :
    (cx C ⟨s.env,zau l s.ents⟩ β w).rd v (ck.cell z):=by
  have gf:=g.zau l
  have h1':=zeW l s h1
  have q1':b.as (zau l s.ents) ck=some z:=zKL (fun n=>zkP n l s.ents) q1
  have harg:=as_arg gf h1' q1' (old:=fun k=>k < w.heap.size∧¬ Top (cx C ⟨s.env,zau l s.ents⟩ β w).lk β k∧(cx C ⟨s.env,zau l s.ents⟩ β w).av k) (fun b hb ht hav=>⟨hb,ht,hav⟩)
    (fun n fr t xs u hbn hl hu hf=>by
      have:=zvl l s.ents hb hbn hl
      rw[hf] at this; cases this)
    (fun n t xs u hbn hl _=>by have:=zp3 l s.ents hb hbn hl; cases this)
  obtain ⟨fp,r1,r2⟩:=harg
  exact ⟨fp,r1,fun b hb=>⟨(r2 b hb).1,(r2 b hb).2.2.2.1,(r2 b hb).2.2.2.2⟩⟩
theorem part_sound (hT:zg1 P t i) (ho:o.op = .store t x y) (g:Gam C s X β a.tmps w) {n j off:Nat} {c:List A1}
    (hx:zaR (cx C s β w) (.v false [.oe n j off]) (a.eval x)) (hcv:zck (cx C s β w) c (a.eval y).cells.toList) (hlen:(a.eval y).cells.size=i.zero.length)
    (hy:(zgL s n j off c).Yields (av,s')) (hK:Goes C X o a av s' K):o.wp P a w K Q:=by
  have hcl:=hcv.length
  simp only[Array.length_toList] at hcl
  unfold zgL at hy
  split at hy
  · rename_i u xs hl
    obtain ⟨e',he,hr⟩:=hy
    cases hr
    cases hj:xs[j]? with
    | none=>rw[hj] at he; cases he
    | some e =>
      rw[hj,Option.bind_some] at he
      split at he
      · rename_i l hp
        obtain ⟨xt,q1,rfl⟩:=zij he
        obtain ⟨p1,p2⟩:=zfI _ _ _ _ hp
        rw[zcY,zao] at p1
        have gf:=g.zau c
        have hx':zaR (cx C ⟨s.env,zau c s.ents⟩ β w) (.v false [.oe n j off]) (a.eval x):=by
          obtain ⟨a1,e1,e2,e3⟩:=hx; cases e1; exact ⟨_,rfl,zeW c s e2,e3⟩
        have hlt:((zbQ (u.cells e)).take off).length=off:=by rw[List.length_take,zcY,zao]; omega
        refine store_pe hT ho gf hl hx' hlen (by omega) hj (fun k cc hk hout=>?_) (fun k cc hlt' hk=>?_) hcv.one hK
        · rw [ze5] at hk
          obtain ⟨b,ck,z,h1,h2,rfl⟩:=zf3 q1 k cc hk
          have hb:(zbQ (u.cells e))[k]? = some b:=by
            rw[p2,zbS,hlt] at h1
            rcases hout with h | h
            · rw[if_pos h,List.getElem?_take_of_lt h] at h1; exact h1
            · rw[if_neg (by omega),if_neg (by omega),List.getElem?_drop,show off+c.length+(k - off - c.length)=k from by omega] at h1; exact h1
          rw[zkS] at hb
          cases hc:(u.cells e)[k]? with
          | none=>rw[hc] at hb; cases hb
          | some c0 =>
            rw[hc] at hb
            simp only[Option.map_some,Option.some.injEq] at hb
            subst hb
            have h2:ck.get c0=some z:=by cases ck<;>exact h2
            rw[zfw h2]
        · rw[ze5] at hk
          obtain ⟨b,ck,z,h1,h2,rfl⟩:=zf3 q1 _ cc hk
          rw[p2,zbS,hlt,if_neg (by omega),if_pos (by omega),show off+k - off=k from by omega] at h1
          obtain ⟨v,hv,hok,_⟩:=hcv.get h1
          exact ⟨v,by simpa using hv,zLa g (List.mem_of_getElem? h1) hok h2⟩
      · cases he
  · exact hy.elim
theorem deep_sound (hT:zg1 P t i) (ho:o.op = .store t x y) (g:Gam C s X β a.tmps w) {n j off:Nat} {c:List A1}
    (hx:zaR (cx C s β w) (.v false [.de n j off]) (a.eval x)) (hcv:zck (cx C s β w) c (a.eval y).cells.toList) (hlen:(a.eval y).cells.size=i.zero.length)
    (hy:(deepStore s n j off c).Yields (av,s')) (hK:Goes C X o a av s' K):o.wp P a w K Q:=by
  unfold deepStore at hy
  split at hy
  · rename_i u xs K0 hl habs
    split at hy
    · rename_i hcond
      obtain ⟨e',he,hr⟩:=hy
      cases hr
      cases hj:xs[j]? with
      | none=>rw[hj] at he; cases he
      | some e =>
        rw[hj,Option.bind_some] at he
        split at he
        · rename_i l hp
          obtain ⟨hc0,hc1⟩:=Bool.and_eq_true_iff.1 hcond
          obtain ⟨hcan,hnd⟩:=Bool.and_eq_true_iff.1 hc0
          have hpin:n % 64=63→zzW c=true:=fun h63=>by
            rw[h63] at hc1
            exact hc1
          refine store_de hT ho g hl hcan habs (zfc hnd) hpin hx hcv hlen hj hp he ?_
          rw[zie]
          exact hK
        · cases he
    · exact hy.elim
  · exact hy.elim
theorem sound_store (hL:zcC P lay) (ho:o.op = .store t x y) (hd:o.dst=none) (g:Gam C s X β a.tmps w) (hx:zaR (cx C s β w) (zaW s x) (a.eval x)) (hy':zaR (cx C s β w) (zaW s y) (a.eval y))
    (hy:(evalOp lay cons o s).Yields (av,s')) (hK:Goes C X o a av s' K):o.wp P a w K Q:=by
  simp only[evalOp,ho] at hy
  split at hy
  · rename_i i b c hi hb hc
    have hT:=hL t i hi
    rw[zcn hb] at hx
    split at hy
    · rename_i hlen
      have hlen:c.length=i.zero.length:=by simpa using hlen
      obtain ⟨hcv,_⟩:=zik hy' hc
      have hcl:=hcv.length
      simp only[Array.length_toList] at hcl
      unfold storeOp at hy
      split at hy
      · split at hy
        · rename_i l hl
          split at hy
          · rename_i l' hp
            cases hy; exact zFK hT ho hd g hl hx hy' hc hlen hp hK
          · exact hy.elim
        · exact hy.elim
      · rename_i n j
        split at hy
        · rename_i u xs hl
          split at hy
          · rename_i hsz
            have hsz:c.length=u.size:=by simpa using hsz
            split at hy
            · rename_i e he
              cases hy
              obtain ⟨xt,q1,rfl⟩:=zij he
              have gf:=g.zau c
              have hx':zaR (cx C ⟨s.env,zau c s.ents⟩ β w) (.v false [.oe n j 0]) (a.eval x):=by
                obtain ⟨a1,e1,e2,e3⟩:=hx; cases e1; exact ⟨_,rfl,zeW c s e2,e3⟩
              exact zFJ hT ho gf hl hx' (by omega) (by omega) (fun k cc hk=>by
                  rw[ze5] at hk
                  obtain ⟨v,h1,h2⟩:=as_stored g (l:=c) (fun b hb=>hb) hcv q1 k cc hk
                  exact ⟨v,by simpa using h1,h2⟩) hcv.one hK
            · exact hy.elim
          · exact part_sound hT ho g hx hcv (by omega) hy hK
        · exact hy.elim
      · exact part_sound hT ho g hx hcv (by omega) hy hK
      · exact deep_sound hT ho g hx hcv (by omega) hy hK
      · exact hy.elim
    · exact hy.elim
  · exact hy.elim
end
end Go.Di
open Go.RowKit (Below)
namespace Go.Di
section
variable {P:Program} {C:Bs} {w w':World} {s s':St} {X:Nat→Prop} {β β':Nat→Option Value} {a:Act} {o:Oper} {tm:Array Value}
  {t:TypeId} {x y:Operand} {i:TI} {K:Act→World→Prop} {Q:Exit→Act→World→Prop} {lay:List (TypeId × TI)} {cons:List (FuncId × Con)} {av:AV}
theorem zoz (ho:o.op = .move x∨o.op = .assign x) (g:Gam C s X β a.tmps w) (hx:zaR (cx C s β w) (zaW s x) (a.eval x)) (hy:(evalOp lay cons o s).Yields (av,s')) (hK:Goes C X o a av s' K):o.wp P a w K Q:=by
  rcases ho with ho | ho
  all_goals
    simp only[evalOp,ho] at hy
    cases hy
    exact zal (v:=a.eval x) (by simp[execOp,ho]) g hx hK
theorem zyX {c:Operand} (ho:o.op = .pick c x y) (g:Gam C s X β a.tmps w) (hc:zaR (cx C s β w) (zaW s c) (a.eval c)) (hx:zaR (cx C s β w) (zaW s x) (a.eval x)) (hz:zaR (cx C s β w) (zaW s y) (a.eval y))
    (hy:(evalOp lay cons o s).Yields (av,s')) (hK:Goes C X o a av s' K):o.wp P a w K Q:=by
  simp only[evalOp,ho] at hy
  split at hy
  · rename_i b p q h1 h2 h3
    cases hy
    rw[h1] at hc; rw[h2] at hx; rw[h3] at hz
    have e1:=zf2 hc; have e2:=zf2 hx; have e3:=zf2 hz
    refine zal (v := .bool (bif b then p else q)) ?_ g zbM hK
    cases b<;>simp[execOp,ho,e1,e2,e3,asBool]
  · rename_i b h1 _
    rw[h1] at hc
    have e1:=zf2 hc
    cases b with
    | true=>cases hy; exact zal (v:=a.eval x) (by simp[execOp,ho,e1,asBool]) g hx hK
    | false=>cases hy; exact zal (v:=a.eval y) (by simp[execOp,ho,e1,asBool]) g hz hK
  · exact hy.elim
theorem zzB (hL:zcC P lay) (h:zvd t lay=true):P.underlying t=some .bool:=by
  unfold zvd at h
  split at h
  · rename_i hi
    obtain ⟨inf,d,z,_,hu,_,_,_,_,_,_,_,_,hb,_⟩:=hL t _ hi
    rw[hu,hb rfl]
  · cases h
theorem zt2 (hL:zcC P lay) {op:BinOp} {U:TypeId} (ho:o.op = .binOp op t x y U) (g:Gam C s X β a.tmps w) (hx:zaR (cx C s β w) (zaW s x) (a.eval x)) (hz:zaR (cx C s β w) (zaW s y) (a.eval y))
    (hy:(evalOp lay cons o s).Yields (av,s')) (hK:Goes C X o a av s' K):o.wp P a w K Q:=by
  simp only[evalOp,ho] at hy
  unfold Go.Di.binOp at hy
  split at hy
  · rename_i k m k' n h1 h2
    rw[h1] at hx; rw[h2] at hz
    split at hy
    · rename_i hk
      have hk:=zgQ hk
      subst hk
      refine zDR ho g (zd9 hx) (zd9 hz) (r:=(av,s')) ?_ hK
      cases hi:zve s k m n op with
      | fail=>rw[hi] at hy; exact hy.elim
      | ret r=>rw[hi] at hy; cases hy; rfl
      | ask q f=>rw[hi] at hy; obtain ⟨u,hu,hf⟩:=hy; simp[Susp.zvH,hu,hf]
    · split at hy
      · obtain ⟨u,hu,hf⟩:=hy
        cases hf
        have hn:¬ n < 0:=by have:=of_decide_eq_true (zdi hu); omega
        have h3:=zd9 hx
        have h4:=zd9 hz
        exact zal (by simp[execOp,ho,h3,h4,eqGuard,Go.binOp,Op.shift,hn,zFP]) g zaS hK
      · exact hy.elim
  · rename_i m n h1 h2
    rw[h1] at hx; rw[h2] at hz
    split at hy
    · rename_i hsc
      have hsc:=zzB hL hsc
      split at hy
      · cases hy; exact zIK hsc ho g (zf2 hx) (zf2 hz) hK
      · cases hy; exact zIJ hsc ho g (zf2 hx) (zf2 hz) hK
      · exact hy.elim
    · exact hy.elim
  · rename_i m n h1 h2
    rw[h1] at hx; rw[h2] at hz
    split at hy
    · cases hy; exact zK7 ho g (zk4 hx) (zk4 hz) hK
    · cases hy; exact zK6 ho g (zk4 hx) (zk4 hz) hK
    · obtain ⟨u,hu,hf⟩:=hy
      cases hf
      exact zK8 ho g (zk4 hx) (zk4 hz) (by have:=zdi hu; simpa using Nat.le_of_ble_eq_true this) hK
    · exact hy.elim
  · exact hy.elim
theorem zt3 (hL:zcC P lay) (ho:o.op = .alloc t) (g:Gam C s X β a.tmps w) (hy:(evalOp lay cons o s).Yields (av,s')) (hK:Goes C X o a av s' K):o.wp P a w K Q:=by
  simp only[evalOp,ho] at hy
  split at hy
  · rename_i i hi
    cases hy; exact alloc_sound (hL t i hi) ho g _ hK
  · exact hy.elim
theorem zBf (hL:zcC P lay) (ho:o.op = .box t x) (g:Gam C s X β a.tmps w) (hx:zaR (cx C s β w) (zaW s x) (a.eval x)) (hy:(evalOp lay cons o s).Yields (av,s')) (hK:Goes C X o a av s' K):o.wp P a w K Q:=by
  simp only[evalOp,ho] at hy
  split at hy
  · rename_i i l hi hl
    split at hy
    · cases hy; exact zE9 (hL t i hi) ho g _ hx hl hK
    · exact hy.elim
  · exact hy.elim
theorem zt1 (hL:zcC P lay) {ps:Array (Nat × Operand)} (ho:o.op = .build t ps) (g:Gam C s X β a.tmps w) (hx:∀ (j:Nat) (z:Operand),(j,z)∈ps.toList→zaR (cx C s β w) (zaW s z) (a.eval z))
    (hy:(evalOp lay cons o s).Yields (av,s')) (hK:Goes C X o a av s' K):o.wp P a w K Q:=by
  simp only[evalOp,ho] at hy
  split at hy
  · rename_i i hi
    split at hy
    · rename_i l hst hl
      cases hy; exact zvE (hL t i hi) ho g hst hx hl hK
    · exact hy.elim
  · exact hy.elim
theorem zyW (_hL:zcC P lay) {op:UnOp} (ho:o.op = .unOp op t x) (g:Gam C s X β a.tmps w) (hx:zaR (cx C s β w) (zaW s x) (a.eval x)) (hy:(evalOp lay cons o s).Yields (av,s')) (hK:Goes C X o a av s' K):o.wp P a w K Q:=by
  simp only[evalOp,ho] at hy
  split at hy
  · rename_i b h1
    rw[h1] at hx; cases hy; exact zB6 ho g (zf2 hx) hK
  · rename_i k n h1
    rw[h1] at hx; cases hy; exact zB9 ho g (zd9 hx) hK
  · exact hy.elim
theorem zoU {e:ST} (h:zpU t lay=true) (hi:zcm t lay=some i) (he:i.elem=some e):e.zfZ=true:=by
  unfold zpU at h
  split at h
  · rename_i hi'
    rw[hi'] at hi; cases hi
    cases he; exact h
  · cases h
theorem zyY (hL:zcC P lay) (ho:o.op = .makeSlice t x y) (g:Gam C s X β a.tmps w) (hx:zaR (cx C s β w) (zaW s x) (a.eval x)) (hz:zaR (cx C s β w) (zaW s y) (a.eval y))
    (hy:(evalOp lay cons o s).Yields (av,s')) (hK:Goes C X o a av s' K):o.wp P a w K Q:=by
  simp only[evalOp,ho] at hy
  split at hy
  · rename_i _ _ _ e _ _ _ n m hi h1 h2
    rw[h1] at hx; rw[h2] at hz
    split at hy
    · rename_i z hze
      split at hy
      · rename_i hdt
        obtain ⟨u,hu,hf⟩:=hy
        cases hf
        have hg:=zdi hu
        simp only[Bool.and_eq_true,decide_eq_true_eq] at hg
        exact make_deep (hL t _ hi) ho g _ rfl (zoU hdt hi rfl) hze (zd9 hx) (zd9 hz) hg.1.1 hg.1.2 hg.2 hK
      · obtain ⟨u,hu,hf⟩:=hy
        cases hf
        have hg:=zdi hu
        simp only[Bool.and_eq_true,decide_eq_true_eq] at hg
        exact zy9 (hL t _ hi) ho g _ rfl hze (zd9 hx) (zd9 hz) hg.1.1 hg.1.2 hg.2 hK
    · exact hy.elim
  · exact hy.elim
theorem sound_slice (hL:zcC P lay) {lo hi:Option Operand} (ho:o.op = .slice t x lo hi none) (g:Gam C s X β a.tmps w) (hx:zaR (cx C s β w) (zaW s x) (a.eval x))
    (hlo:∀ z,lo=some z→zaR (cx C s β w) (zaW s z) (a.eval z)) (hhi:∀ z,hi=some z→zaR (cx C s β w) (zaW s z) (a.eval z))
    (hy:(evalOp lay cons o s).Yields (av,s')) (hK:Goes C X o a av s' K):o.wp P a w K Q:=by
  simp only[evalOp,ho] at hy
  split at hy
  · rename_i i b hi hb
    have hT:=hL t i hi
    rw[zcn hb] at hx
    unfold sliceOp at hy
    split at hy
    · split at hy
      · rename_i q hs hbd
        obtain ⟨u,hu,hf⟩:=hy
        cases hf
        exact zBg hT (zwF hs) ho g hx hlo hhi hbd (zdi hu) hK
      · exact hy.elim
    · split at hy
      · rename_i q hs hbd
        obtain ⟨u,hu,hf⟩:=hy
        cases hf
        exact zLc hT (zDP hs) ho g hx hlo hhi hbd (zdi hu) hK
      · exact hy.elim
    · split at hy
      · rename_i fr u xs hl
        split at hy
        · rename_i q hs hbd
          obtain ⟨u,hu,hf⟩:=hy
          cases hf
          exact zBh hT (zDP hs) ho g hl hx hlo hhi hbd (zdi hu) hK
        · exact hy.elim
      · exact hy.elim
    · exact hy.elim
  · exact hy.elim
theorem zm6 (hL:zcC P lay) {f:Nat} (ho:o.op = .fieldAddr t x f) (g:Gam C s X β a.tmps w) (hx:zaR (cx C s β w) (zaW s x) (a.eval x)) (hy:(evalOp lay cons o s).Yields (av,s')) (hK:Goes C X o a av s' K):o.wp P a w K Q:=by
  simp only[evalOp,ho] at hy
  split at hy
  · rename_i i b hi hb
    have hT:=hL t i hi
    rw[zcn hb] at hx
    split at hy
    · rename_i off k ag n q hst hf
      split at hy
      · rename_i e hl
        cases hy; exact zsc hT ho g hst hf hl hx hK
      · exact hy.elim
    · rename_i off k ag cs q hst hf
      cases hy; exact zsa hT ho g hst hf hx hK
    · rename_i off k ag n j q hst hf
      split at hy
      · rename_i fr u xs hl
        cases hy; exact zsb hT ho g hst hf hl hx hK
      · exact hy.elim
    · rename_i off k ag n j q hst hf
      split at hy
      · rename_i u xs hl
        cases hy; exact zsd hT ho g hst hf hl hx hK
      · exact hy.elim
    · exact hy.elim
  · exact hy.elim
theorem ztZ (hL:zcC P lay) {f:Nat} (ho:o.op = .field t x f) (g:Gam C s X β a.tmps w) (hx:zaR (cx C s β w) (zaW s x) (a.eval x)) (hy:(evalOp lay cons o s).Yields (av,s')) (hK:Goes C X o a av s' K):o.wp P a w K Q:=by
  simp only[evalOp,ho] at hy
  split at hy
  · rename_i i l hi h1
    rw[h1] at hx
    split at hy
    · rename_i off k ag hst hf
      split at hy
      · rename_i c hw hone
        cases hy
        exact zvp (hL t i hi) ho g hst hx hf hw (fun h=>by subst h; simpa using hone) hK
      · exact hy.elim
    · exact hy.elim
  · exact hy.elim
theorem sound_indexAddr (hL:zcC P lay) (ho:o.op = .indexAddr t x y) (g:Gam C s X β a.tmps w) (hx:zaR (cx C s β w) (zaW s x) (a.eval x)) (hz:zaR (cx C s β w) (zaW s y) (a.eval y))
    (hy:(evalOp lay cons o s).Yields (av,s')) (hK:Goes C X o a av s' K):o.wp P a w K Q:=by
  simp only[evalOp,ho] at hy
  split at hy
  · rename_i _ _ _ e _ _ b j hi hb h2
    rw[zcn hb] at hx
    rw[h2] at hz
    have hT:=hL t _ hi
    unfold indexOp at hy
    split at hy
    · split at hy
      · rename_i he
        have:=znR he; subst this
        obtain ⟨u,hu,hf⟩:=hy
        cases hf
        exact zvg hT rfl ho g hx (zd9 hz) hu hK
      · exact hy.elim
    · split at hy
      · rename_i fr u xs hl
        split at hy
        · rename_i he
          have:=znR he; subst this
          obtain ⟨u,hu,hf⟩:=hy
          cases hf
          exact zpY hT rfl ho g hl hx (zd9 hz) hu hK
        · exact hy.elim
      · exact hy.elim
    · split at hy
      · rename_i fr u xs hl
        split at hy
        · rename_i he
          have:=znR he; subst this
          obtain ⟨u,hu,hf⟩:=hy
          cases hf
          exact zpX hT rfl ho g hl hx (zd9 hz) hu hK
        · exact hy.elim
      · exact hy.elim
    · split at hy
      · rename_i u xs hl
        split at hy
        · rename_i he
          have:=znR he; subst this
          obtain ⟨u,hu,hf⟩:=hy
          cases hf
          exact zrV hT rfl ho g hl hx (zd9 hz) hu hK
        · exact hy.elim
      · exact hy.elim
    · exact hy.elim
  · exact hy.elim
theorem ztY (hL:zcC P lay) (ho:o.op = .index t x y) (g:Gam C s X β a.tmps w) (hx:zaR (cx C s β w) (zaW s x) (a.eval x)) (hz:zaR (cx C s β w) (zaW s y) (a.eval y))
    (hy:(evalOp lay cons o s).Yields (av,s')) (hK:Goes C X o a av s' K):o.wp P a w K Q:=by
  simp only[evalOp,ho] at hy
  split at hy
  · rename_i hi hb h2
    rw[zcn hb] at hx
    rw[h2] at hz
    obtain ⟨u,hu,hf⟩:=hy
    cases hf
    exact zDU (hL t _ hi) rfl ho g hx (zd9 hz) hu hK
  · exact hy.elim
theorem sound_extract {f:Nat} (ho:o.op = .extract x f) (g:Gam C s X β a.tmps w) (hx:zaR (cx C s β w) (zaW s x) (a.eval x)) (hy:(evalOp lay cons o s).Yields (av,s')) (hK:Goes C X o a av s' K):o.wp P a w K Q:=by
  simp only[evalOp,ho] at hy
  split at hy
  · rename_i ps h1
    rw[h1] at hx
    obtain ⟨vs,hv,hok⟩:=hx
    split at hy
    · rename_i b l hp
      cases hy
      have get:∀ (ps:List (Bool × List A1)) (vs:List Value),zk7 (cx C s β w) ps vs→∀ (f:Nat) b l,ps[f]? = some (b,l)→∃ u,vs[f]? = some u∧VOk (cx C s β w) b l u:=by
        intro ps
        induction ps with
        | nil=>intro vs _ f b l h; simp at h
        | cons p r ih =>
          intro vs h f b l hf
          cases vs with
          | nil=>exact h.elim
          | cons v vs =>
            cases f with
            | zero=>simp at hf; subst hf; exact ⟨v,rfl,h.1⟩
            | succ f=>simp at hf; simpa using ih vs h.2 f b l hf
      obtain ⟨u,hu,hvo⟩:=get ps vs.toList hok f b l hp
      refine zal (v:=u) (av := .v b l) ?_ g hvo hK
      have hu':vs[f]? = some u:=by simpa using hu
      simp[execOp,ho,Instr.extract,hv,hu']
    · exact hy.elim
  · exact hy.elim
theorem zDN (hL:zcC P lay) (h:zDO t lay=true):∃ k,P.underlying t=some (.int k):=by
  unfold zDO at h
  split at h
  · rename_i hi
    obtain ⟨inf,d,z,_,hu,_,_,_,_,_,_,hk,_⟩:=hL t _ hi
    exact ⟨_,by rw[hu,hk _ rfl]⟩
  · cases h
theorem zvc (hL:zcC P lay) (h:zpV t lay=true):∃ E,P.underlying t=some (.slice E)∧P.underlying E=some (.int .u8):=by
  unfold zpV at h
  split at h
  · rename_i hi
    obtain ⟨inf,d,z,_,hu,_,_,_,_,_,_,_,_,_,_,hb⟩:=hL t _ hi
    obtain ⟨E,h1,h2⟩:=hb rfl
    exact ⟨E,by rw[hu,h1],h2⟩
  · cases h
theorem zD9 (ys:List Int) (j:Nat):(flat .byte ys)[j]? = (ys[j]?).map (Cell.int .u8):=by
  have:flat .byte ys=ys.map (Cell.int .u8):=by
    unfold flat
    induction ys with
    | nil=>rfl
    | cons y r ih=>exact congrArg (Cell.int .u8 y :: ·) ih
  rw[this,List.getElem?_map]
theorem zzL {T E:TypeId} (g:Gam C s X β a.tmps w) {b:A1} {xs:List Int} {v:Value} (hok:A1Ok (cx C s β w) b v) (hl:zim s.ents .byte b=some xs) (hE:P.underlying T=some (.slice E)) (he:P.underlying E=some (.int .u8)) (hd:P.underlying t=some .string) :
    (convert T t v).run P w = .ok (.string (bytesOf xs)) w:=by
  obtain ⟨news,hn,hc⟩:=zmT g (e := .byte) hok hl
  have hget:∀ (j:Nat) (n:Int),xs[j]? = some n→news[j]? = some (.int .u8 n):=fun j n hj=>by
    obtain ⟨u,h1,h2⟩:=hc j (.int .u8 n) (by rw[zD9,hj]; rfl)
    rw[h1,zKq h2]
  obtain ⟨hlen,_,⟨h0,ad,c,rfl⟩ | ⟨q,off,c,rfl,hcell⟩⟩:=hn
  · have hx:xs=[]:=List.eq_nil_of_length_eq_zero h0
    subst hx
    rw[run_convert_bytes_string w T t E ad 0 c hE he hd]
    cases ad with
    | none=>simp[Conv.bytesToString]; rfl
    | some ad =>
      have:=run_bytesToString (P:=P) w ad 0 c [] (by simp[loadCells,loadCellsFrom])
      rw[this]; rfl
  · exact run_convert_bytes_arg w T E hE he q off xs.length c xs rfl (fun i hi=>by
      have hx:xs[i]? = some xs[i]:=List.getElem?_eq_getElem hi
      rw[hcell i _ (hget i _ hx)]
      simp[List.getD,hx]) t hd
theorem zpD (hL:zcC P lay) {T:TypeId} (ho:o.op = .convert T t x) (g:Gam C s X β a.tmps w) (hx:zaR (cx C s β w) (zaW s x) (a.eval x)) (hy:(evalOp lay cons o s).Yields (av,s')) (hK:Goes C X o a av s' K):o.wp P a w K Q:=by
  simp only[evalOp,ho] at hy
  split at hy
  · rename_i hi h1 hint
    rw[h1] at hx
    cases hy
    have hT:=zDN hL hint
    obtain ⟨inf,d,z,_,hu,_,_,_,_,_,_,hk,_⟩:=hL t _ hi
    have hk:=hk _ rfl
    subst hk
    obtain ⟨k2,hd⟩:=hT
    have hv:=zd9 hx
    refine zal (v := .int _ _) ?_ g zaS hK
    simp[execOp,ho,convert,run_underlying hd,run_underlying hu,hv,Conv.intToInt]
  · rename_i b hi h1 hint
    rw[h1] at hx
    split at hy
    · rename_i xs hb hl
      cases hy
      obtain ⟨inf,d,z,_,hu,_,_,_,_,_,_,_,hstr,_⟩:=hL t _ hi
      cases hstr rfl
      obtain ⟨E,hE,he⟩:=zvc hL hb
      obtain ⟨a1,e1,hok,_⟩:=hx
      cases e1
      exact zal (v := .string (bytesOf xs)) (by rw[show (execOp a.eval o)=(do pure (.value (← convert T t (a.eval x)))) by simp[execOp,ho]]; simp only[Sem.run_bind,zzL g hok hl hE he hu,Result.andThen]; rfl) g zk5 hK
    · exact hy.elim
  · exact hy.elim
theorem zBd (ho:o.op = .nilCheck x) (g:Gam C s X β a.tmps w) (hx:zaR (cx C s β w) (zaW s x) (a.eval x)) (hy:(evalOp lay cons o s).Yields (av,s')) (hK:Goes C X o a av s' K):o.wp P a w K Q:=by
  simp only[evalOp,ho] at hy
  have go:∀ b ad,zaR (cx C s β w) (.v false [b]) (a.eval x)→a.eval x = .pointer (some ad)→av = .one b→s'=s→o.wp P a w K Q:=fun b ad hb hv h1 h2=>by
    subst h1; subst h2
    refine zal (v := .pointer (some ad)) (by simp[execOp,ho,hv]) g (by rw[← hv]; exact hb) hK
  split at hy
  · rename_i n off ha
    rw[zcn ha] at hx
    split at hy
    · rename_i e hl
      cases hy
      obtain ⟨a1,e1,h1,_⟩:=id hx
      cases e1
      obtain ⟨b,_,hv⟩:=h1 (by show (look n s.ents).isSome=true; rw[hl]; rfl)
      exact go _ _ hx hv rfl rfl
    · exact hy.elim
  · rename_i cs off ha
    rw[zcn ha] at hx
    cases hy
    obtain ⟨a1,e1,h1,_⟩:=id hx
    cases e1
    obtain ⟨b,q,hv,_⟩:=h1
    exact go _ _ hx hv rfl rfl
  · rename_i n j off ha
    rw[zcn ha] at hx
    split at hy
    · rename_i hl
      cases hy
      obtain ⟨a1,e1,h1,_⟩:=id hx
      cases e1
      obtain ⟨_,g0,q,m,cap,_,hv⟩:=h1 _ _ _ hl
      exact go _ _ hx hv rfl rfl
    · exact hy.elim
  · rename_i n j off ha
    rw[zcn ha] at hx
    split at hy
    · rename_i hl
      cases hy
      obtain ⟨a1,e1,h1,_⟩:=id hx
      cases e1
      obtain ⟨_,vs,g0,q,m,cap,_,_,hv⟩:=h1 _ _ _ hl
      exact go _ _ hx hv rfl rfl
    · exact hy.elim
  · exact hy.elim
end
end Go.Di
open Go.RowKit (Below)
namespace Go.Di
theorem zh9 (n:Nat) (cs:List Cell):∀ l:List AV,(zq7 n cs l).length=l.length
  | []=>rfl
  | a :: l=>by simp[zq7,zh9 n cs l]
theorem znG (n:Nat) (cs:List Cell) (t:Nat):∀ l:List AV,(zq7 n cs l)[t]? = (l[t]?).map (AV.shut n cs)
  | []=>by simp[zq7]
  | a :: l=>by cases t with
    | zero=>simp[zq7]
    | succ t=>simpa [zq7] using znG n cs t l
theorem zoQ (n m:Nat) (cs:List Cell):∀ es,look m (zFS n cs es)=(look m es).map (Ent.shut n cs)
  | []=>rfl
  | (k,f) :: r=>by simp only[zFS,zas,zoQ n m cs r]; split<;>rfl
theorem zee (n m:Nat) (cs:List Cell) (s:St):look m (s.shut n cs).ents=if m=n then none else (look m s.ents).map (Ent.shut n cs):=by
  simp only[St.shut,zoQ,zkQ]; split<;>rfl
theorem zii (n:Nat) (cs:List Cell) (e:Ent):(e.shut n cs).mut=e.mut:=by cases e<;>rfl
section
variable {P:Program} {C:Bs} {w w':World} {s s':St} {X:Nat→Prop} {β β':Nat→Option Value} {a:Act} {o:Oper} {tm:Array Value}
  {t:TypeId} {x y:Operand} {i:TI} {K:Act→World→Prop} {Q:Exit→Act→World→Prop} {lay:List (TypeId × TI)} {cons:List (FuncId × Con)} {av:AV}
theorem zpy {n b:Nat} {cs:List Cell} (h:Top (fun m=>look m (s.shut n cs).ents) β b):∃ m e v,m≠n∧look m s.ents=some e∧e.mut=true∧β m=some v∧b∈zaq v:=by
  obtain ⟨m,e,v,h1,h2,h3,h4⟩:=h
  simp only[zee] at h1
  split at h1
  · cases h1
  · rename_i hn
    cases hm:look m s.ents with
    | none=>simp[hm] at h1
    | some f=>simp[hm] at h1; subst h1; exact ⟨m,f,v,hn,hm,by rwa [zii] at h2,h3,h4⟩
theorem zDL (n:Nat) (cs:List Cell):Le (cx C s β w) (cx C (s.shut n cs) β w) (·≠n) where
  hav _ h:=h
  heap _ _ _:=rfl
  size:=Nat.le_refl _
  top _ _ _ h:=by obtain ⟨m,e,v,_,h1,h2,h3,h4⟩:=zpy h; exact ⟨m,e,v,h1,h2,h3,h4⟩
  look m hm:=by
    simp only[cx,zee,if_neg hm]
    cases hl:look m s.ents with
    | none=>left; simp
    | some e =>
      right; left
      refine ⟨trivial,?_⟩
      cases e with
      | box l=>right; left; exact ⟨l,zpJ n cs l,by simp,by simp[Ent.shut]⟩
      | arr fr t xs=>left; simp[Ent.shut]
      | deep fr t xs=>left; simp[Ent.shut]
      | pool k=>left; simp[Ent.shut]
  tk _ _ h:=h
  cont m hm _ fr t xs h:=by
    have h:look m (s.shut n cs).ents=some (.deep fr t xs):=h
    rw[zee,if_neg hm] at h
    cases hl:look m s.ents with
    | none=>rw[hl] at h; cases h
    | some e =>
      rw[hl] at h
      cases e with
      | deep fr' t' xs'=>cases h; exact ⟨fr,hl,rfl⟩
      | box l=>cases h
      | arr fr t' xs'=>cases h
      | pool k=>cases h
theorem zEN (g:Gam C s X β tm w) {b:A1} {c:Cell} {v:Value} (h:cellOf s.ents b=some c) (hb:A1Ok (cx C s β w) b v) (h1:v.oneCell'=true):(cx C s β w).rd v c:=by
  cases b with
  | bot=>cases h; exact ⟨[],.any v h1,by intro b hb; cases hb⟩
  | d c'=>cases h; exact hb
  | own n =>
    simp only[cellOf] at h
    split at h
    · rename_i t xs hl
      cases h
      exact g.ents n _ _ hl (hb _ _ _ hl)
    · cases h
  | dp n =>
    simp only[cellOf] at h
    split at h
    · rename_i t xs hl
      cases h
      obtain ⟨vs,h1,h2⟩:=hb (by show (look n s.ents).isSome=true; rw[hl]; rfl)
      exact zqa (x:=cx C s β w) (g.ents n _ _ hl h1) h2
    · cases h
  | _=>cases h
theorem zo7 (g:Gam C s X β tm w):∀ {l:List A1} {cs:List Cell} {vs:List Value},zkX s.ents l=some cs→zck (cx C s β w) l vs→∀ (i:Nat) (c:Cell),cs[i]? = some c→∃ v,vs[i]? = some v∧(cx C s β w).rd v c
  | [],cs,_,h,_,i,c,hc=>by cases h; simp at hc
  | b :: r,cs,[],h,hv,i,c,hc=>hv.elim
  | b :: r,cs,v :: vs,h,⟨h1,h2,h3⟩,i,c,hc=>by
    unfold zkX at h
    split at h
    · rename_i c0 l0 e1 e2
      cases h
      cases i with
      | zero=>simp at hc; subst hc; exact ⟨v,rfl,zEN g e1 h1 h2⟩
      | succ i=>simpa using zo7 g e2 h3 i c (by simpa using hc)
    · cases h
theorem Gam.sealed (g:Gam C s X β tm w) {n:Nat} {l:List A1} {cs:List Cell} (hl:look n s.ents=some (.box l)) (hc:zkX s.ents l=some cs) :
    Gam C (s.shut n cs) X β tm w∧∀ b,β n=some (.pointer (some ⟨b,0,none⟩))→(cx C (s.shut n cs) β w).za7 b 0 cs:=by
  have hle:Le (cx C s β w) (cx C (s.shut n cs) β w) (·≠n):=zDL n cs
  have hat:∀ b,β n=some (.pointer (some ⟨b,0,none⟩))→(cx C (s.shut n cs) β w).za7 b 0 cs:=by
    intro b hb
    have hT:Top (fun m=>look m s.ents) β b:=⟨n,_,_,hl,rfl,hb,by simp[zaq]⟩
    obtain ⟨b',vs,T,e1,hh,hok⟩:=g.ents n _ _ hl hb
    cases e1
    refine ⟨.inr fun k hk=>?_,fun i c hic=>?_⟩
    · rw[List.mem_singleton] at hk
      subst hk
      refine ⟨(g.fresh k hT).2,fun ht=>?_,.inl (g.fresh k hT).1⟩
      obtain ⟨m,e,v,hm,h1,h2,h3,h4⟩:=zpy ht
      exact hm (g.uniq m n e _ v _ k h1 hl h2 rfl h3 hb h4 (by simp[zaq]))
    · obtain ⟨v,hv,hd⟩:=zo7 g hc hok i c hic
      refine ⟨v,?_,hle.rd hd⟩
      have hh:w.heap[b]? = some (.cells vs T (0,0)):=hh
      show w.cell? _=_
      rw[Nat.zero_add,cell_of_row _ b i vs T (0,0) hh]; simpa using hv
  have one:∀ (b:A1) (v:Value),A1Ok (cx C s β w) b v→A1Ok (cx C (s.shut n cs) β w) (b.shut n cs) v:=by
    intro b v hb
    have other:A1Ok (cx C (s.shut n cs) β w) (b.kill n) v:=hle.a1 (zny n b) (hb.kill n)
    cases b with
    | lp m off =>
      simp only[A1.shut]
      split
      · rename_i hm
        have hm:=Nat.eq_of_beq_eq_true hm
        subst hm
        obtain ⟨b,h1,h2⟩:=hb (by show (look n s.ents).isSome=true; rw[hl]; rfl)
        exact ⟨b,0,by rw[h2,Nat.zero_add],hat b h1⟩
      · rename_i hm
        refine hle.a1 (a := .lp m off) (fun e=>?_) hb
        subst e; simp at hm
    | _=>exact other
  have many:∀ (l:List A1) (vs:List Value),zck (cx C s β w) l vs→zck (cx C (s.shut n cs) β w) (zpJ n cs l) vs:=by
    intro l
    induction l with
    | nil=>intro vs h; cases vs with | nil=>trivial | cons _ _=>exact h.elim
    | cons b r ih=>intro vs h; cases vs with
      | nil=>exact h.elim
      | cons v vs=>exact ⟨one b v h.1,h.2.1,ih vs h.2.2⟩
  have vok:∀ gg (l:List A1) (v:Value),VOk (cx C s β w) gg l v→VOk (cx C (s.shut n cs) β w) gg (zpJ n cs l) v:=by
    intro gg l v h
    cases gg with
    | true=>obtain ⟨vs,h1,h2⟩:=h; exact ⟨vs,h1,many _ _ h2⟩
    | false =>
      obtain ⟨b,rfl,h2,h3⟩:=h
      refine ⟨b.shut n cs,rfl,one b v h2,?_⟩
      rcases h3 with rfl | h3
      · exact .inl rfl
      · exact .inr h3
  have avok:∀ (b:AV) (v:Value),zaR (cx C s β w) b v→zaR (cx C (s.shut n cs) β w) (b.shut n cs) v:=by
    intro b v h
    cases b with
    | v gg l=>exact vok gg l v h
    | tup ps =>
      obtain ⟨vs,h1,h2⟩:=h
      refine ⟨vs,h1,?_⟩
      clear h1
      generalize vs.toList=l at h2
      induction ps generalizing l with
      | nil=>cases l with | nil=>trivial | cons _ _=>exact h2.elim
      | cons p r ih=>cases l with
        | nil=>exact h2.elim
        | cons v l=>exact ⟨vok _ _ _ h2.1,ih l h2.2⟩
  refine ⟨⟨by simp[St.shut,zh9,g.len],fun t b hx hb=>?_,fun m e v h1 h2=>?_,fun k m e f u v b h1 h2 h3 h4 h5 h6 h7 h8=>?_,fun b hb=>?_,g.kb,g.below,fun m v hp hlk=>?_,g.np,fun m e hm=>?_,g.fx,fun π hπ=>⟨(g.tk π hπ).1,by rw[zee]; split<;>simp[(g.tk π hπ).2]⟩⟩,hat⟩
  · simp only[St.shut,znG] at hb
    cases ht:s.env[t]? with
    | none=>simp[ht] at hb
    | some b0=>simp[ht] at hb; subst hb; exact avok _ _ (g.env t b0 hx ht)
  · simp only[zee] at h1
    split at h1
    · cases h1
    · cases hm:look m s.ents with
      | none=>simp[hm] at h1
      | some f =>
        simp[hm] at h1; subst h1
        have hf:=g.ents m f v hm h2
        cases f with
        | box l'=>obtain ⟨b,vs,T,q1,q2,q3⟩:=hf; exact ⟨b,vs,T,q1,q2,many _ _ q3⟩
        | arr fr t xs=>exact EntOk.le hle (e := .arr fr t xs) trivial (fun _ _ _=>rfl) hf
        | deep fr t xs=>exact EntOk.le hle (e := .deep fr t xs) trivial (fun _ _ _=>rfl) hf
        | pool q=>exact EntOk.le hle (e := .pool q) trivial (fun _ _ _=>rfl) hf
  · simp only[zee] at h1 h2
    split at h1<;>split at h2<;>try (first | cases h1 | cases h2)
    cases hk:look k s.ents with
    | none=>simp[hk] at h1
    | some e' =>
      cases hm:look m s.ents with
      | none=>simp[hm] at h2
      | some f' =>
        simp[hk] at h1; simp[hm] at h2; subst h1; subst h2
        exact g.uniq k m e' f' u v b hk hm (by rwa [zii] at h3) (by rwa [zii] at h4) h5 h6 h7 h8
  · obtain ⟨m,e,v,_,h1,h2,h3,h4⟩:=zpy hb
    exact g.fresh b ⟨m,e,v,h1,h2,h3,h4⟩
  · refine g.pin m v hp ?_
    simp only[zee] at hlk
    split at hlk
    · cases hlk
    · cases hm:look m s.ents with
      | none=>simp[hm] at hlk
      | some f=>rfl
  · simp only[zee] at hm
    split at hm
    · cases hm
    · cases h0:look m s.ents with
      | none=>simp[h0] at hm
      | some f=>exact g.bs m f h0
theorem seal1_ok (g:Gam C s X β tm w) {b:AV} {v:Value} {cs:List Cell} {s1:St} (h:seal1 s b=some (cs,s1)) (hb:zaR (cx C s β w) b v) :
    Gam C s1 X β tm w∧(∃ q o,v = .pointer (some ⟨q,o,none⟩)∧(cx C s1 β w).za7 q o cs)∧∀ q o ds,(cx C s β w).za7 q o ds→(cx C s1 β w).za7 q o ds:=by
  unfold seal1 at h
  split at h
  · cases h
    obtain ⟨a1,e1,h0,_⟩:=hb
    cases e1
    obtain ⟨q,o,h1,h2⟩:=h0
    exact ⟨g,⟨q,o,by simpa using h1,h2⟩,fun _ _ _ h=>h⟩
  · rename_i n
    split at h
    · rename_i l hl
      split at h
      · rename_i cs' hc
        cases h
        have gf:=g.zau l
        have hl':look n (zau l s.ents)=some (.box l):=by
          rcases zkP n l s.ents with h1 | h1<;>rw[h1,hl]; rfl
        obtain ⟨g1,hat⟩:=gf.sealed hl' hc
        obtain ⟨a1,e1,h1,_⟩:=hb
        cases e1
        obtain ⟨q,h2,h3⟩:=h1 (by show (look n s.ents).isSome=true; rw[hl]; rfl)
        refine ⟨g1,⟨q,0,h3,hat q h2⟩,fun q o ds hd=>?_⟩
        have step:∀ (m:List A1) (s0:St),(cx C s0 β w).za7 q o ds→(cx C ⟨s0.env,zau m s0.ents⟩ β w).za7 q o ds:=by
          intro m
          induction m with
          | nil=>intro s0 h; exact h
          | cons c r ih =>
            intro s0 h
            refine ih ⟨s0.env,c.freeze s0.ents⟩ ?_
            cases c<;>simp only[A1.freeze]<;>first | exact h | exact (zoT _).za7 h
        exact (zDL n cs).za7 (step l s hd)
      · cases h
    · cases h
  · cases h
theorem zm7:∀ {xs:List Operand} {s s':St} {css:List (List Cell)},Gam C s X β a.tmps w→sealCaps s xs=some (css,s')→(∀ x∈xs,∀ t,x = .tmp t→¬ X t) →
    Gam C s' X β a.tmps w∧css.length=xs.length∧(∀ (i:Nat) (cs:List Cell) (x:Operand),css[i]? = some cs→xs[i]? = some x→∃ q o,a.eval x = .pointer (some ⟨q,o,none⟩)∧(cx C s' β w).za7 q o cs) ∧
    ∀ q o ds,(cx C s β w).za7 q o ds→(cx C s' β w).za7 q o ds
  | [],s,s',css,g,h,_=>by
    cases h
    exact ⟨g,rfl,fun i cs x h=>by simp at h,fun _ _ _ h=>h⟩
  | x :: r,s,s',css,g,h,hx=>by
    unfold sealCaps at h
    split at h
    · rename_i cs1 s1 h1
      split at h
      · rename_i css2 s2 h2
        cases h
        obtain ⟨g1,⟨q,o,hv,hat⟩,k1⟩:=seal1_ok g h1 (zlc g (hx x (List.mem_cons_self ..)))
        obtain ⟨g2,hlen,hall,k2⟩:=zm7 g1 h2 fun z hz=>hx z (List.mem_cons_of_mem _ hz)
        refine ⟨g2,by simp[hlen],fun i cs z hc hz=>?_,fun q o ds h=>k2 q o ds (k1 q o ds h)⟩
        cases i with
        | zero=>simp at hc hz; subst hc; subst hz; exact ⟨q,o,hv,k2 _ _ _ hat⟩
        | succ i=>exact hall i cs z (by simpa using hc) (by simpa using hz)
      · cases h
    · cases h
theorem zoq {f:FuncId} {first caps:Array Operand} (ho:o.op = .makeFunc (.func f) first caps) (g:Gam C s X β a.tmps w) (hx:∀ t,Operand.tmp t∈o.op.operands→¬ X t) (hy:(evalOp lay cons o s).Yields (av,s')) (hK:Goes C X o a av s' K):o.wp P a w K Q:=by
  simp only[evalOp,ho] at hy
  split at hy
  · rename_i css s1 hf hc
    cases hy
    obtain ⟨g1,hlen,hall,_⟩:=zm7 (a:=a) g hc fun x hm t ht=>hx t (by rw[ho,← ht]; simp[Op.operands]; exact .inr (by simpa using hm))
    have hf0:first=#[]:=Array.ext' hf
    subst hf0
    refine zal (v := .func (.func f) #[] (caps.map a.eval)) (by simp[execOp,ho,Instr.makeFunc]) g1 (zbT (a := .fn f css) ⟨_,rfl,by simpa using hlen.symm,fun i cs hi=>?_⟩ rfl) hK
    have hlt:i < caps.toList.length:=by rw[← hlen]; exact (List.getElem?_eq_some_iff.1 hi).1
    obtain ⟨q,o,h1,h2⟩:=hall i cs _ hi (List.getElem?_eq_getElem hlt)
    refine ⟨q,o,?_,h2⟩
    have hlt':i < caps.size:=by simpa using hlt
    simp only[Array.getElem?_map,Array.getElem?_eq_getElem hlt',Option.map_some]
    rw[← h1]; simp
  · exact hy.elim
end
end Go.Di
open Go.RowKit (Below)
namespace Go.Di
def zAO (m n:Nat) (oe:Option Ent) (s:St):List (Nat × Ent):=put PN (.pool n) (match oe with
  | none=>(s.free m).ents
  | some e=>put m e (s.free m).ents)
theorem zhp {m n k:Nat} {oe:Option Ent} {s:St}:look k (zAO m n oe s)=if k=PN then some (.pool n) else if k=m then oe else (look k s.ents).map (Ent.kill m):=by
  unfold zAO
  rw[za6]
  split
  · rfl
  · cases oe with
    | none=>rw[za4]
    | some e =>
      rw[za6,za4]
      split<;>rfl
theorem zF2 {m:Nat} (hm:m % 64≠63):PN≠m:=fun h=>hm (h▸by decide)
section
variable {C:Bs} {w:World} {s:St} {X:Nat→Prop} {β:Nat→Option Value} {tm:Array Value}
theorem Gam.zKn (g:Gam C s X β tm w) {m n n':Nat} {e0:Ent} {oe:Option Ent} {u0 v1:Value} {us ws:List Value} (hm:m % 64≠63) (hl:look m s.ents=some e0) (hmut:e0.mut=true) (hu:β m=some u0)
    (hp:look PN s.ents=some (.pool n)) (hpv:β PN=some (.tuple us.toArray)) (_hoe:∀ e1,oe=some e1→∀ l,e1 ≠ .box l)  (_hod:∀ e1,oe=some e1→∀ fr t xs,e1 ≠ .deep fr t xs)
    (htop:∀ b∈ws.flatMap zaE,b∈zaq u0) (htop1:∀ e1,oe=some e1→∀ b∈zaq v1,b∈zaq u0∧b ∉ ws.flatMap zaE)
    (hpool:∀ y:Cx,y.w=w→zir y n' (.tuple (us++ws).toArray))
    (hent:Le (cx C s β w) (cx C ⟨(s.free m).env,zAO m n' oe s⟩ (upd (upd β m v1) PN (.tuple (us++ws).toArray)) w) (·≠m)→∀ e1,oe=some e1 →
      EntOk (cx C ⟨(s.free m).env,zAO m n' oe s⟩ (upd (upd β m v1) PN (.tuple (us++ws).toArray)) w) e1 v1) :
    Gam C ⟨(s.free m).env,zAO m n' oe s⟩ X (upd (upd β m v1) PN (.tuple (us++ws).toArray)) tm w ∧
      Le (cx C s β w) (cx C ⟨(s.free m).env,zAO m n' oe s⟩ (upd (upd β m v1) PN (.tuple (us++ws).toArray)) w) (·≠m):=by
  have hPm:PN≠m:=zF2 hm
  have hmP:m≠PN:=fun h=>hPm h.symm
  have bP:upd (upd β m v1) PN (.tuple (us++ws).toArray) PN=some (.tuple (us++ws).toArray):=upd_same ..
  have bm:upd (upd β m v1) PN (.tuple (us++ws).toArray) m=some v1:=by rw[zax _ _ hmP,upd_same]
  have bo:∀ k,k≠PN→k≠m→upd (upd β m v1) PN (.tuple (us++ws).toArray) k=β k:=fun k h1 h2=>by rw[zax _ _ h1,zax _ _ h2]
  have hC:C.tk=none:=by
    cases h:C.tk with
    | none=>rfl
    | some π=>have:=(g.tk π h).2; rw[hp] at this; cases this
  have hCp:C.pin PN=none:=by
    cases h:C.pin PN with
    | none=>rfl
    | some v=>exact absurd rfl (g.np PN (by rw[h]; rfl)).2
  have old:∀ k f,k≠PN→k≠m→look k (zAO m n' oe s)=some f→∃ f0,look k s.ents=some f0∧f=f0.kill m:=fun k f h1 h2 h=>by
    rw[zhp,if_neg h1,if_neg h2] at h
    cases h0:look k s.ents with
    | none=>rw[h0] at h; cases h
    | some f0=>rw[h0] at h; cases h; exact ⟨f0,rfl,rfl⟩
  have usT:∀ b,b∈us.flatMap zaE→b∈zaq (.tuple us.toArray):=fun b hb=>by simpa [zaq] using hb
  have own:∀ k f u b,look k (zAO m n' oe s)=some f→f.mut=true→upd (upd β m v1) PN (.tuple (us++ws).toArray) k=some u→b∈zaq u →
      (k=PN∧(b∈us.flatMap zaE∨b∈ws.flatMap zaE))∨(k=m∧b∈zaq u0∧b ∉ ws.flatMap zaE)∨(k≠PN∧k≠m∧∃ f0,look k s.ents=some f0∧f0.mut=true∧f=f0.kill m∧β k=some u):=by
    intro k f u b h1 h2 h3 h4
    by_cases hk:k=PN
    · subst hk
      rw[bP] at h3; cases h3
      left
      refine ⟨rfl,?_⟩
      have:b∈(us++ws).flatMap zaE:=by simpa [zaq] using h4
      rw[List.flatMap_append,List.mem_append] at this
      exact this
    · by_cases hkm:k=m
      · subst hkm
        rw[bm] at h3; cases h3
        rw[zhp,if_neg hk,if_pos rfl] at h1
        obtain ⟨q1,q2⟩:=htop1 f h1 b h4
        exact .inr (.inl ⟨rfl,q1,q2⟩)
      · obtain ⟨f0,q1,rfl⟩:=old k f hk hkm h1
        rw[bo k hk hkm] at h3
        exact .inr (.inr ⟨hk,hkm,f0,q1,by rwa [zdn] at h2,rfl,h3⟩)
  have hTop:∀ b,Top (fun k=>look k (zAO m n' oe s)) (upd (upd β m v1) PN (.tuple (us++ws).toArray)) b→Top (fun k=>look k s.ents) β b:=by
    rintro b ⟨k,f,u,h1,h2,h3,h4⟩
    rcases own k f u b h1 h2 h3 h4 with ⟨_,h | h⟩ | ⟨_,h,_⟩ | ⟨_,_,f0,q1,q2,_,q3⟩
    · exact ⟨PN,_,_,hp,rfl,hpv,usT b h⟩
    · exact ⟨m,e0,u0,hl,hmut,hu,htop b h⟩
    · exact ⟨m,e0,u0,hl,hmut,hu,h⟩
    · exact ⟨k,f0,u,q1,q2,q3,h4⟩
  have hle : Le (cx C s β w) (cx C ⟨(s.free m).env,zAO m n' oe s⟩ (upd (upd β m v1) PN (.tuple (us++ws).toArray)) w) (·≠m):=by
    refine ⟨fun _ h=>h,fun _ _ _=>rfl,Nat.le_refl _,fun b _ _ h=>hTop b h,fun k hk=>?_,fun k hk _ fr t xs h=>?_,fun i v h=>?_⟩
    · simp only[cx]
      rw[zhp]
      by_cases hkP:k=PN
      · subst hkP
        rw[if_pos rfl]
        right; right; right
        refine ⟨n,n',_,_,hp,rfl,hpv,bP,fun i v h=>?_⟩
        have h':us[i]? = some v:=by simpa using h
        have:=(List.getElem?_eq_some_iff.1 h').1
        simp[List.getElem?_append_left this,h']
      · rw [if_neg hkP,if_neg hk,bo k hkP hk]
        cases h0:look k s.ents with
        | none=>left; rfl
        | some f =>
          right; left; refine ⟨rfl,?_⟩
          cases f with
          | box l=>right; left; exact ⟨l,zdF m l,rfl,rfl⟩
          | arr fr t xs=>left; rfl
          | deep fr t xs=>left; rfl
          | pool q=>left; rfl
    · have h:look k (zAO m n' oe s)=some (.deep fr t xs):=h
      by_cases hkP:k=PN
      · subst hkP; rw[zhp,if_pos rfl] at h; cases h
      · obtain ⟨f0,q1,q2⟩:=old k _ hkP hk h
        refine ⟨fr,?_,bo k hkP hk⟩
        show look k s.ents=_
        rw[q1]
        cases f0 with
        | deep fr' t' xs'=>exact congrArg some q2.symm
        | box l=>cases q2
        | arr _ _ _=>cases q2
        | pool _=>cases q2
    · simp only[cx,zd1,hpv,bP] at h ⊢
      have h':us[i]? = some v:=by simpa using h
      have:=(List.getElem?_eq_some_iff.1 h').1
      simp[List.getElem?_append_left this,h']
  refine ⟨⟨by simp[St.free,zd7,g.len],fun t av hx h=>?_,fun k f u h1 h2=>?_,fun k1 k2 f1 f2 u1 u2 b h1 h2 h3 h4 h5 h6 h7 h8=>?_,fun b h=>g.fresh b (hTop b h),g.kb,g.below,fun k u hpk hlk=>?_,g.np,fun k f h=>?_,g.fx,fun π hπ=>by rw[hC] at hπ; cases hπ⟩,hle⟩
  · simp only[St.free,zeh] at h
    cases h0:s.env[t]? with
    | none=>simp[h0] at h
    | some a0 =>
      simp[h0] at h; subst h
      exact hle.av (zd8 m a0) ((g.env t a0 hx h0).kill m)
  · by_cases hk:k=PN
    · subst hk
      rw[zhp,if_pos rfl] at h1; cases h1
      rw[bP] at h2; cases h2
      exact hpool _ rfl
    · by_cases hkm:k=m
      · subst hkm
        rw[zhp,if_neg hk,if_pos rfl] at h1
        rw[bm] at h2; cases h2
        exact hent hle f h1
      · obtain ⟨f0,q1,rfl⟩:=old k f hk hkm h1
        rw[bo k hk hkm] at h2
        exact EntOk.le hle (zdG m f0) (fun _ _ _=>rfl) ((g.ents k f0 u q1 h2).kill m)
  · have q1:=own k1 f1 u1 b h1 h3 h5 h7
    have q2:=own k2 f2 u2 b h2 h4 h6 h8
    have pm:∀ b,b∈us.flatMap zaE→b∈zaq u0→False:=fun b a1 a2=>hPm (g.uniq PN m _ _ _ _ b hp hl rfl hmut hpv hu (usT b a1) a2)
    have po:∀ k f0 u,k≠PN→look k s.ents=some f0→f0.mut=true→β k=some u→b∈zaq u→b∈us.flatMap zaE→False:=fun k f0 u a1 a2 a3 a4 a5 a6=>a1 (g.uniq k PN _ _ _ _ b a2 hp a3 rfl a4 hpv a5 (usT b a6))
    have mo:∀ k f0 u,k≠m→look k s.ents=some f0→f0.mut=true→β k=some u→b∈zaq u→b∈zaq u0→False:=fun k f0 u a1 a2 a3 a4 a5 a6=>a1 (g.uniq k m _ _ _ _ b a2 hl a3 hmut a4 hu a5 a6)
    rcases q1 with ⟨e1,h | h⟩ | ⟨e1,h,hn⟩ | ⟨n1,n2,f0,r1,r2,_,r3⟩<;>rcases q2 with ⟨e2,h' | h'⟩ | ⟨e2,h',hn'⟩ | ⟨n1',n2',f0',r1',r2',_,r3'⟩
    · rw[e1,e2]
    · rw[e1,e2]
    · exact (pm b h h').elim
    · exact (po k2 f0' u2 n1' r1' r2' r3' h8 h).elim
    · rw[e1,e2]
    · rw[e1,e2]
    · exact absurd h hn'
    · exact (mo k2 f0' u2 n2' r1' r2' r3' h8 (htop b h)).elim
    · exact (pm b h' h).elim
    · exact absurd h' hn
    · rw[e1,e2]
    · exact (mo k2 f0' u2 n2' r1' r2' r3' h8 h).elim
    · exact (po k1 f0 u1 n1 r1 r2 r3 h7 h').elim
    · exact (mo k1 f0 u1 n2 r1 r2 r3 h7 (htop b h')).elim
    · exact (mo k1 f0 u1 n2 r1 r2 r3 h7 h').elim
    · exact g.uniq k1 k2 f0 f0' u1 u2 b r1 r1' r2 r2' r3 r3' h7 h8
  · have hkP:k≠PN:=fun e=>by rw[e,hCp] at hpk; cases hpk
    have hkm:k≠m:=fun e=>hm (by rw[← e]; exact (g.np k (by rw[hpk]; rfl)).1)
    rw[bo k hkP hkm]
    refine g.pin k u hpk ?_
    have hlk:(look k (zAO m n' oe s)).isSome:=hlk
    rw[zhp,if_neg hkP,if_neg hkm] at hlk
    cases h0:look k s.ents with
    | none=>rw[h0] at hlk; cases hlk
    | some f=>rfl
  · by_cases hkP:k=PN
    · subst hkP; rw[bP]; rfl
    · by_cases hkm:k=m
      · subst hkm; rw[bm]; rfl
      · obtain ⟨f0,q1,_⟩:=old k f hkP hkm h
        rw[bo k hkP hkm]; exact g.bs k f0 q1
/-! ### Values behind it -/
theorem A1Ok.sub {x y:Cx} {m:Nat} {dp:Bool} {b:A1} (hle:Le x y (·≠m)) (h1:dp=false→∀ v,A1Ok x (.own m) v→A1Ok y b v) (h2:dp=true→∀ v,A1Ok x (.dp m) v→A1Ok y b v) {a:A1} {v:Value} (ha:A1Ok x a v):A1Ok y (a.sub m dp b) v:=by
  have other:A1Ok y (a.kill m) v:=hle.a1 (zny m a) (ha.kill m)
  cases a with
  | own k =>
    simp only[A1.sub]
    split
    · rename_i hk
      have hk:=Nat.eq_of_beq_eq_true hk
      subst hk
      cases dp with
      | true=>trivial
      | false=>exact h1 rfl v ha
    · rename_i hk
      exact hle.a1 (a := .own k) (fun e=>by subst e; simp at hk) ha
  | dp k =>
    simp only[A1.sub]
    split
    · rename_i hk
      have hk:=Nat.eq_of_beq_eq_true hk
      subst hk
      cases dp with
      | true=>exact h2 rfl v ha
      | false=>trivial
    · rename_i hk
      exact hle.a1 (a := .dp k) (fun e=>by subst e; simp at hk) ha
  | _=>exact other
theorem zck.sub {x y:Cx} {m:Nat} {dp:Bool} {b:A1} (hle:Le x y (·≠m)) (h1:dp=false→∀ v,A1Ok x (.own m) v→A1Ok y b v) (h2:dp=true→∀ v,A1Ok x (.dp m) v→A1Ok y b v):∀ {l:List A1} {vs:List Value},zck x l vs→zck y (zND m dp b l) vs
  | [],[],_=>trivial
  | _ :: _,_ :: _,⟨k1,k2,k3⟩=>⟨k1.sub hle h1 h2,k2,zck.sub hle h1 h2 k3⟩
  | [],_ :: _,h=>h.elim
  | _ :: _,[],h=>h.elim
theorem VOk.sub {x y:Cx} {m:Nat} {dp:Bool} {b:A1} (hle:Le x y (·≠m)) (h1:dp=false→∀ v,A1Ok x (.own m) v→A1Ok y b v) (h2:dp=true→∀ v,A1Ok x (.dp m) v→A1Ok y b v) {gg:Bool} {l:List A1} {v:Value} (h:VOk x gg l v):VOk y gg (zND m dp b l) v:=by
  cases gg with
  | true=>obtain ⟨vs,k1,k2⟩:=h; exact ⟨vs,k1,zck.sub hle h1 h2 k2⟩
  | false =>
    obtain ⟨a,rfl,k2,k3⟩:=h
    refine ⟨a.sub m dp b,rfl,k2.sub hle h1 h2,?_⟩
    rcases k3 with rfl | k3
    · exact .inl rfl
    · exact .inr k3
theorem zk7.sub {x y:Cx} {m:Nat} {dp:Bool} {b:A1} (hle:Le x y (·≠m)) (h1:dp=false→∀ v,A1Ok x (.own m) v→A1Ok y b v) (h2:dp=true→∀ v,A1Ok x (.dp m) v→A1Ok y b v):∀ {l:List (Bool × List A1)} {vs:List Value},zk7 x l vs→zk7 y (zP2 m dp b l) vs
  | [],[],_=>trivial
  | (_,_) :: _,_ :: _,⟨k1,k2⟩=>⟨k1.sub hle h1 h2,zk7.sub hle h1 h2 k2⟩
  | [],_ :: _,h=>h.elim
  | _ :: _,[],h=>h.elim
theorem zaR.sub {x y:Cx} {m:Nat} {dp:Bool} {b:A1} (hle:Le x y (·≠m)) (h1:dp=false→∀ v,A1Ok x (.own m) v→A1Ok y b v) (h2:dp=true→∀ v,A1Ok x (.dp m) v→A1Ok y b v) {a:AV} {v:Value} (h:zaR x a v):zaR y (a.sub m dp b) v:=by
  cases a with
  | v g l=>exact VOk.sub hle h1 h2 h
  | tup ps=>obtain ⟨vs,k1,k2⟩:=h; exact ⟨vs,k1,zk7.sub hle h1 h2 k2⟩
/-! ### The contents of the pool -/
theorem zmX (xs:List Int):zaE (encI xs)=[]:=by
  show List.flatMap zmw (xs.map fun n=>Value.int .i64 n)=[]
  induction xs with
  | nil=>rfl
  | cons x l ih=>rw[List.map_cons,List.flatMap_cons,ih]; rfl
def zfo:List Value→List ST.rat.El→List Value
  | _ :: a :: b :: us,r :: l=>a :: encI (Rt.mag r) :: b :: encI (Rt.den r) :: zfo us l
  | _,_=>[]
theorem zmh:∀ {us:List Value} {l:List ST.rat.El},us.length=3 * l.length→(zfo us l).length=4 * l.length
  | [],[],_=>rfl
  | _ :: _ :: _ :: us,r :: l,h=>by
    have:=zmh (us:=us) (l:=l) (by simp at h; omega)
    simp only[zfo,List.length_cons]
    omega
  | [],_ :: _,h=>by simp at h
  | [_],_ :: _,h=>by simp at h; omega
  | [_,_],_ :: _,h=>by simp at h; omega
  | _ :: _,[],h=>by simp at h
theorem zgK:∀ {us:List Value} {l:List ST.rat.El} {b:Nat},b∈(zfo us l).flatMap zaE→b∈us.flatMap zaE
  | _ :: a :: c :: us,r :: l,b,h=>by
    simp only[zfo,List.flatMap_cons,zmX,List.nil_append,List.mem_append] at h ⊢
    rcases h with h | h | h
    · exact .inr (.inl h)
    · exact .inr (.inr (.inl h))
    · exact .inr (.inr (.inr (zgK h)))
  | [],_,b,h=>by simp[zfo] at h
  | [_],_,b,h=>by simp[zfo] at h
  | [_,_],_,b,h=>by simp[zfo] at h
  | _ :: _ :: _ :: _,[],b,h=>by simp[zfo] at h
theorem zni:∀ {us:List Value} {l:List ST.rat.El},(us.flatMap zaE).Nodup→((zfo us l).flatMap zaE).Nodup
  | _ :: a :: c :: us,r :: l,h=>by
    simp only[zfo,List.flatMap_cons,zmX,List.nil_append] at h ⊢
    obtain ⟨_,h,_⟩:=List.nodup_append.1 h
    obtain ⟨h1,h,h2⟩:=List.nodup_append.1 h
    obtain ⟨h3,h4,h5⟩:=List.nodup_append.1 h
    refine List.nodup_append.2 ⟨h1,List.nodup_append.2 ⟨h3,zni h4,fun x hx y hy=>h5 x hx y (zgK hy)⟩,fun x hx y hy=>?_⟩
    refine h2 x hx y ?_
    rcases List.mem_append.1 hy with hy | hy
    · exact List.mem_append_left _ hy
    · exact List.mem_append_right _ (zgK hy)
  | [],_,_=>by simp[zfo]
  | [_],_,_=>by simp[zfo]
  | [_,_],_,_=>by simp[zfo]
  | _ :: _ :: _ :: _,[],_=>by simp[zfo]
theorem zrg:∀ {us:List Value} {l:List ST.rat.El} {n i:Nat} {c:Cell},us.length=3 * l.length→(flat .trat (zqW n l))[i]? = some c →
    (∃ b,c = .bool b∧(flat .rat l)[i]? = some (.bool b))∨∃ k:Tk,c = .tok k∧(flat .rat l)[i]? = some (.sl .int k.xs)∧n≤k.id∧k.id < n+2 * l.length∧∃ u,us[i]? = some u∧(zfo us l)[2 * (k.id - n)]? = some u∧(zfo us l)[2 * (k.id - n)+1]? = some (encI k.xs)
  | x :: a :: c0 :: us,r :: l,n,i,c,hl,h=>by
    have h':(Cell.bool (Rt.neg r) :: .tok ⟨n,Rt.mag r⟩ :: .tok ⟨n+1,Rt.den r⟩ :: flat .trat (zqW (n+2) l))[i]? = some c:=h
    have e:flat .rat (r :: l)=Cell.bool (Rt.neg r) :: .sl .int (Rt.mag r) :: .sl .int (Rt.den r) :: flat .rat l:=rfl
    rw[e]
    simp only[zfo,List.length_cons]
    rcases i with _ | _ | _ | i
    · simp at h'; subst h'; exact .inl ⟨_,rfl,rfl⟩
    · simp at h'; subst h'
      exact .inr ⟨_,rfl,rfl,Nat.le_refl _,by simp only[]; omega,a,rfl,by simp,by simp⟩
    · simp at h'; subst h'
      refine .inr ⟨_,rfl,rfl,by simp,by simp only[]; omega,c0,rfl,?_,?_⟩
      · show _[2 * (n+1 - n)]? = _
        rw[show 2 * (n+1 - n)=2 from by omega]; rfl
      · show _[2 * (n+1 - n)+1]? = _
        rw[show 2 * (n+1 - n)+1=3 from by omega]; rfl
    · have h2:(flat .trat (zqW (n+2) l))[i]? = some c:=by simpa using h'
      rcases zrg (us:=us) (by simp at hl; omega) h2 with ⟨b,q1,q2⟩ | ⟨k,q1,q2,q3,q4,u,q5,q6,q7⟩
      · exact .inl ⟨b,q1,by simpa using q2⟩
      · refine .inr ⟨k,q1,by simpa using q2,by omega,by omega,u,by simpa using q5,?_,?_⟩
        · rw[show 2 * (k.id - n)=2 * (k.id - (n+2))+4 from by omega]; simpa using q6
        · rw[show 2 * (k.id - n)+1=2 * (k.id - (n+2))+1+4 from by omega]; simpa using q7
  | _,[],n,i,c,_,h=>by
    have h':([]:List Cell)[i]? = some c:=h
    simp at h'
  | [],_ :: _,_,_,_,h,_=>by simp at h
  | [_],_ :: _,_,_,_,h,_=>by simp at h; omega
  | [_,_],_ :: _,_,_,_,h,_=>by simp at h; omega
theorem zrf {p:Value→List Int→Prop}:∀ {us:List Value} {l:List ST.rat.El},us.length=3 * l.length→(∀ (i:Nat) ys u,(flat .rat l)[i]? = some (.sl .int ys)→us[i]? = some u→p u ys) →
    ∀ j,j < 2 * l.length→∃ u ys,(zfo us l)[2 * j]? = some u∧(zfo us l)[2 * j+1]? = some (encI ys)∧p u ys
  | x :: a :: c0 :: us,r :: l,hl,h,j,hj=>by
    have e:flat .rat (r :: l)=Cell.bool (Rt.neg r) :: .sl .int (Rt.mag r) :: .sl .int (Rt.den r) :: flat .rat l:=rfl
    simp only[zfo]
    rcases j with _ | _ | j
    · exact ⟨a,Rt.mag r,rfl,rfl,h 1 _ _ rfl rfl⟩
    · exact ⟨c0,Rt.den r,rfl,rfl,h 2 _ _ rfl rfl⟩
    · obtain ⟨u,ys,k1,k2,k3⟩:=zrf (us:=us) (l:=l) (p:=p) (by simp at hl; omega) (fun i ys u h1 h2=>h (i+3) ys u (by rw[e]; simpa using h1) (by simpa using h2)) j (by simp at hj; omega)
      refine ⟨u,ys,?_,?_,k3⟩
      · rw[show 2 * (j+1+1)=2 * j+4 from by omega]; simpa using k1
      · rw[show 2 * (j+1+1)+1=2 * j+1+4 from by omega]; simpa using k2
  | _,[],_,_,j,hj=>by simp at hj
  | [],_ :: _,h,_,_,_=>by simp at h
  | [_],_ :: _,h,_,_,_=>by simp at h; omega
  | [_,_],_ :: _,h,_,_,_=>by simp at h; omega
theorem OwnI.slice {x:Cx} {xs:List Int} {v:Value} (h:OwnI x xs v):∃ a len cap,v = .slice a len cap:=by
  rcases h with ⟨_,a,rfl⟩ | ⟨g,cap,_,_,rfl,_⟩
  · exact ⟨_,_,_,rfl⟩
  · exact ⟨_,_,_,rfl⟩
theorem ztW {v:Value} (h:∃ a len cap,v = .slice a len cap) {b:Nat} (hb:b∈zaq v):b∈zaE v:=by
  obtain ⟨a,len,cap,rfl⟩:=h
  cases a<;>cases len<;>cases cap<;>first | exact hb | (simp[zaq] at hb)
theorem zG2 {x:Cx} {xs:List ST.rat.El} {s:Value} {us:List Value} (h:DeepTop x .rat xs s us):∀ (i:Nat) ys u,(flat .rat xs)[i]? = some (.sl .int ys)→us[i]? = some u→OwnI x ys u:=by
  intro i ys u h1 h2
  rcases h with ⟨rfl,_⟩ | ⟨g,cap,cur,T,k1,k2,k3,k4,k5,k6,k7⟩
  · have h':([]:List Cell)[i]? = some (.sl .int ys):=h1
    simp at h'
  · obtain ⟨u',b,q1,q2,q3⟩:=k7 i _ h1
    rw[h2] at q2; cases q2
    have q4:u=u':=q3.1
    rw[q4]; exact q3.2
theorem znw:∀ (n:Nat) (l:List Rt),(zqW n l).length=l.length
  | _,[]=>rfl
  | n,_ :: l=>by simp[zqW,znw (n+2) l]
theorem sink1_ok (g:Gam C s X β tm w) {av:AV} {v:Value} (hav:zaR (cx C s β w) av v) {m:Nat} (hm:m % 64≠63) :
    ∃ β',Gam C (zpF m (av,s)).2 X β' tm w∧zaR (cx C (zpF m (av,s)).2 β' w) (zpF m (av,s)).1 v:=by
  have val:∀ k e,look k s.ents=some e→∃ u,β k=some u:=fun k e h=>by
    have:=g.bs k e h
    cases hb:β k with
    | none=>rw[hb] at this; cases this
    | some u=>exact ⟨u,rfl⟩
  unfold zpF
  split
  · rename_i xs n hl hp
    obtain ⟨u0,hu⟩:=val m _ hl
    obtain ⟨p0,hpv⟩:=val PN _ hp
    obtain ⟨us,rfl,h2,h3,h4⟩:=g.ents PN _ _ hp hpv
    have ho:OwnI (cx C s β w) xs u0:=g.ents m _ _ hl hu
    have hei:zaE (encI xs)=[]:=zmX xs
    have hws:∀ b∈[u0,encI xs].flatMap zaE,b∈zaE u0:=fun b hb=>by simpa [hei] using hb
    obtain ⟨G,hle⟩:=g.zKn (n':=n+1) (oe:=none) (v1:=undef) (ws:=[u0,encI xs]) hm hl rfl hu hp hpv (fun _ h=>by cases h) (fun _ h=>by cases h) (fun b hb=>zfF (hws b hb)) (fun _ h=>by cases h) (fun y hy=>by
      refine ⟨us++[u0,encI xs],rfl,by simp[h2]; omega,?_,fun i hi=>?_⟩
      · rw[List.flatMap_append]
        refine List.nodup_append.2 ⟨h3,by simpa [hei] using zeO ho.top,fun a ha b hb e=>?_⟩
        subst e
        exact zF2 hm (g.uniq PN m _ _ _ _ a hp hl rfl rfl hpv hu (by simpa [zaq] using ha) (zfF (hws a hb)))
      · by_cases h:i < n
        · obtain ⟨u,ys,k1,k2,k3⟩:=h4 i h
          exact ⟨u,ys,by rw[List.getElem?_append_left (by omega)]; exact k1,by rw[List.getElem?_append_left (by omega)]; exact k2,k3.go fun b _=>by rw[hy]; rfl⟩
        · have:i=n:=by omega
          subst this
          refine ⟨u0,xs,?_,?_,ho.go fun b _=>by rw[hy]; rfl⟩
          · rw[List.getElem?_append_right (by omega),h2,Nat.sub_self]; rfl
          · rw[List.getElem?_append_right (by omega),h2,show 2 * i+1 - 2 * i=1 from by omega]; rfl) (fun _ _ h=>by cases h)
    refine ⟨_,G,hav.sub hle (fun _ v hv=>?_) (fun h=>by cases h)⟩
    have hv':β m=some v:=hv false .int xs hl
    rw[hu] at hv'; cases hv'
    obtain ⟨a,len,cap,rfl⟩:=ho.slice
    refine ⟨[],.tok a len cap ⟨n,xs⟩ ?_ ?_,fun b hb=>by cases hb⟩
    · simp only[cx,zd1,upd_same]
      simp[h2]
    · simp only[cx,zd1,upd_same]
      simp[h2]
  · rename_i xs n hl hp
    obtain ⟨u0,hu⟩:=val m _ hl
    obtain ⟨p0,hpv⟩:=val PN _ hp
    obtain ⟨us,rfl,h2,h3,h4⟩:=g.ents PN _ _ hp hpv
    obtain ⟨sv,vs,rfl,q2,q3,_,q5⟩:=g.ents m _ _ hl hu
    have q2:vs.length=3 * xs.length:=by rw[q2,Nat.mul_comm]; rfl
    have hT:zaq (.tuple (sv :: vs).toArray)=zaE sv++vs.flatMap zaE:=by simp[zaq]
    rw[List.flatMap_cons] at q3
    obtain ⟨r1,r2,r3⟩:=List.nodup_append.1 q3
    have hsl:∃ a len cap,sv = .slice a len cap:=by
      rcases q5 with ⟨_,a,rfl⟩ | ⟨_,_,_,_,rfl,_⟩<;>exact ⟨_,_,_,rfl⟩
    have hown:=zG2 q5
    obtain ⟨G, hle⟩:=g.zKn (n':=n+2 * xs.length) (oe:=some (.arr false .trat (zqW n xs))) (v1:=sv) (ws:=zfo vs xs) hm hl rfl hu hp hpv (fun _ h l=>by cases h; intro h; cases h) (fun _ h _ _ _=>by cases h; intro h; cases h)
      (fun b hb=>by rw[hT]; exact List.mem_append_right _ (zgK hb))
      (fun e1 _ b hb=>by
        have hb:=ztW hsl hb
        exact ⟨by rw[hT]; exact List.mem_append_left _ hb,fun hc=>r3 b hb b (zgK hc) rfl⟩)
      (fun y hy=>by
        have hlw:=zmh q2
        refine ⟨us++zfo vs xs,rfl,by rw[List.length_append,h2,hlw]; omega,?_,fun i hi=>?_⟩
        · rw[List.flatMap_append]
          refine List.nodup_append.2 ⟨h3,zni r2,fun a ha b hb e=>?_⟩
          subst e
          exact zF2 hm (g.uniq PN m _ _ _ _ a hp hl rfl rfl hpv hu (by simpa [zaq] using ha) (by rw[hT]; exact List.mem_append_right _ (zgK hb)))
        · by_cases h:i < n
          · obtain ⟨u,ys,k1,k2,k3⟩:=h4 i h
            exact ⟨u,ys,by rw[List.getElem?_append_left (by omega)]; exact k1,by rw[List.getElem?_append_left (by omega)]; exact k2,k3.go fun b _=>by rw[hy]; rfl⟩
          · obtain ⟨u,ys,k1,k2,k3⟩:=zrf (p:=fun u ys=>OwnI (cx C s β w) ys u) q2 hown (i - n) (by omega)
            refine ⟨u,ys,?_,?_,k3.go fun b _=>by rw[hy]; rfl⟩
            · rw[List.getElem?_append_right (by omega),h2,show 2 * i - 2 * n=2 * (i - n) from by omega]; exact k1
            · rw[List.getElem?_append_right (by omega),h2,show 2 * i+1 - 2 * n=2 * (i - n)+1 from by omega]; exact k2)
      (fun hle e1 h=>by
        cases h
        have hlt:(zqW n xs).length=xs.length:=znw n xs
        rcases q5 with ⟨rfl,a,rfl⟩ | ⟨gb,cap,cur,T,k1,k2,k3,k4,k5,k6,k7⟩
        · exact .inl ⟨rfl,a,rfl⟩
        · refine .inr ⟨gb,cap,cur,T,k1.trans (congrArg (fun l=>Value.slice _ l cap) hlt.symm),k2,Nat.le_trans (Nat.le_of_eq hlt) k3,k4,k5,k6,fun i c hc=>?_⟩
          rcases zrg q2 hc with ⟨b,rfl,z1⟩ | ⟨k,rfl,z1,z2,z3,u,z4,z5,z6⟩
          · obtain ⟨u,b',y1,_,y3⟩:=k7 i _ z1
            exact ⟨u,y1,ziO y3.2 trivial⟩
          · obtain ⟨u',b',y1,y2,y3⟩:=k7 i _ z1
            rw[z4] at y2; cases y2
            have y4:u=u':=y3.1
            subst y4
            obtain ⟨a,len,cap',rfl⟩:=(y3.2:OwnI _ _ _).slice
            refine ⟨_,y1,[],.tok a len cap' k ?_ ?_,fun b hb=>by cases hb⟩
            · simp only[cx,zd1,upd_same]
              have:(us++zfo vs xs)[2 * k.id]? = some (.slice a len cap'):=by
                rw[List.getElem?_append_right (by omega),h2,show 2 * k.id - 2 * n=2 * (k.id - n) from by omega]; exact z5
              simpa using this
            · simp only[cx,zd1,upd_same]
              have:(us++zfo vs xs)[2 * k.id+1]? = some (encI k.xs):=by
                rw[List.getElem?_append_right (by omega),h2,show 2 * k.id+1 - 2 * n=2 * (k.id - n)+1 from by omega]; exact z6
              simpa using this)
    refine ⟨_,G,hav.sub hle (fun h=>by cases h) (fun _ v hv=>?_)⟩
    obtain ⟨vs',z1,z2⟩:=hv (by simp[cx,hl])
    rw[show (cx C s β w).β m=β m from rfl,hu] at z1; cases z1
    have z3:sv=v:=by simpa using z2
    subst z3
    intro _ _ _ _
    show upd (upd β m sv) PN _ m=some sv
    rw[zax _ _ (fun h=>zF2 hm h.symm),upd_same]
  · exact ⟨β,g,hav⟩
theorem zpE {w:World} {v:Value}:∀ {l:List Nat} {p:AV × St} {β:Nat→Option Value},Gam C p.2 X β tm w→zaR (cx C p.2 β w) p.1 v→(∀ m∈l,m % 64≠63)→∃ β',Gam C (zt7 l p).2 X β' tm w∧zaR (cx C (zt7 l p).2 β' w) (zt7 l p).1 v
  | [],_,β,g,h,_=>⟨β,g,h⟩
  | m :: r,(av,s),β,g,h,hm=>by
    obtain ⟨β1,g1,h1⟩:=sink1_ok g h (hm m (List.mem_cons_self ..))
    exact zpE (l:=r) (p:=zpF m (av,s)) g1 h1 fun k hk=>hm k (List.mem_cons_of_mem _ hk)
theorem ziQ {d m:Nat}:∀ {l:List A1},m∈zld d l→m % 64≠63∧m / 64=d
  | [],h=>by cases h
  | a :: r,h=>by
    cases a with
    | dp k =>
      simp only[zld] at h
      split at h
      · rename_i h1 h2
        rcases List.mem_cons.1 h with rfl | h
        · exact ⟨(fun e=>by rw[e] at h2; cases h2),Nat.eq_of_beq_eq_true h1⟩
        · exact ziQ h
      · exact ziQ h
    | _=>exact ziQ (l:=r) h
theorem zpR {d m:Nat} {p:Bool × List A1} (h:m∈zF8 d p):m % 64≠63∧m / 64=d:=by
  unfold zF8 at h
  split at h
  · rename_i k1 k2
    split at h
    · rename_i h1 h2
      obtain ⟨a1,a2⟩:=Bool.and_eq_true_iff.1 h1
      obtain ⟨b1,b2⟩:=Bool.or_eq_false_iff.1 h2
      rcases List.mem_cons.1 h with rfl | h
      · exact ⟨(fun e=>by rw[e] at b1; cases b1),Nat.eq_of_beq_eq_true a1⟩
      · rw[List.mem_singleton] at h; subst h
        exact ⟨(fun e=>by rw[e] at b2; cases b2),Nat.eq_of_beq_eq_true a2⟩
    · cases h
  · exact ziQ h
theorem zuk {d m:Nat}:∀ {l:List (Bool × List A1)},m∈newP d l→m % 64≠63∧m / 64=d
  | p :: r,h=>by
    rcases List.mem_append.1 h with h | h
    · exact zpR h
    · exact zuk (l:=r) h
theorem zFO {w:World} {v:Value} {d:Nat} {p:AV × St} {β:Nat→Option Value} (g:Gam C p.2 X β tm w) (h:zaR (cx C p.2 β w) p.1 v):∃ β',Gam C (zt6 d p).2 X β' tm w∧zaR (cx C (zt6 d p).2 β' w) (zt6 d p).1 v:=by
  unfold zt6
  split
  · split
    · exact zpE g h fun m hm=>(zpR hm).1
    · exact zpE g h fun m hm=>(zuk hm).1
  · exact ⟨β,g,h⟩
end
end Go.Di
open Go.RowKit (Below)
namespace Go.Di
theorem zgR:∀ (xs:List ST.rats.El) (i:Nat),(flat .rats xs)[i]? = (xs[i]?).map fun e=>Cell.sl .rat e
  | [],_i=>rfl
  | _x :: _r,0=>rfl
  | _x :: r,i+1=>zgR r i
theorem zKr {x:Cx} {ys:List ST.rat.El} {i:Nat} {c:Cell} (hc:(flat .rat ys)[i]? = some c) {u b:Value}:zcB x u c b↔zgg x u c b:=by
  obtain ⟨e,k,h⟩:=zmO hc
  have hm:=List.mem_of_getElem? h
  simp[ST.cells] at hm
  rcases hm with h | h | h<;>subst h<;>exact Iff.rfl
theorem DeepTop.zero {x:Cx} {ys:List ST.rat.El} {s:Value} {us:List Value} (h:DeepTop x .rat ys s us):DeepTop0 x ys s us:=by
  rcases h with h0 | ⟨g,cap,cur,T,k1,k2,k3,k4,k5,k6,k7⟩
  · exact .inl h0
  · exact .inr ⟨g,cap,cur,T,k1,k2,k3,k4,k5,k6,fun i c hc=>by
      obtain ⟨u,b,q1,q2,q3⟩:=k7 i c hc
      exact ⟨u,b,q1,q2,(zKr hc).1 q3⟩⟩
theorem DeepTop0.deep {x:Cx} {ys:List ST.rat.El} {s:Value} {us:List Value} (h:DeepTop0 x ys s us):DeepTop x .rat ys s us:=by
  rcases h with h0 | ⟨g,cap,cur,T,k1,k2,k3,k4,k5,k6,k7⟩
  · exact .inl h0
  · exact .inr ⟨g,cap,cur,T,k1,k2,k3,k4,k5,k6,fun i c hc=>by
      obtain ⟨u,b,q1,q2,q3⟩:=k7 i c hc
      exact ⟨u,b,q1,q2,(zKr hc).2 q3⟩⟩
theorem DeepTop0.zNy {x:Cx} {ys:List ST.rat.El} {s:Value} {us:List Value} (h:DeepTop0 x ys s us) (hl:us.length=ys.length * ST.size .rat):∀ b∈s :: us,zaE b=zmw b:=by
  intro b hb
  rcases h with ⟨rfl,ad,rfl⟩ | ⟨g,cap,cur,T,rfl,k2,k3,k4,k5,k6,k7⟩
  · have:us=[]:=List.eq_nil_of_length_eq_zero (by simpa using hl)
    subst this
    rw[List.mem_singleton.1 hb]; exact zdD ..
  · rcases List.mem_cons.1 hb with rfl | hb
    · exact zdD ..
    · obtain ⟨i,hi,rfl⟩:=List.getElem_of_mem hb
      obtain ⟨c,hc⟩:∃ c,(flat .rat ys)[i]? = some c:=⟨_,List.getElem?_eq_getElem (by rw[zaD,← hl]; exact hi)⟩
      obtain ⟨u,b,_,q2,q3⟩:=k7 i c hc
      rw[List.getElem?_eq_getElem hi] at q2
      cases q2
      exact q3.top
theorem zmm {l:List Value} (h:∀ b∈l,zaE b=zmw b):l.flatMap zaE=l.flatMap zmw:=by
  induction l with
  | nil=>rfl
  | cons a l ih=>rw[List.flatMap_cons,List.flatMap_cons,h a (List.mem_cons_self ..),ih fun b hb=>h b (List.mem_cons_of_mem _ hb)]
theorem zoL {us:List Value} (h:(us.flatMap zaE).Nodup) {b:Value} (hb:b∈us):(zaE b).Nodup:=by
  induction us with
  | nil=>cases hb
  | cons a l ih =>
    rw[List.flatMap_cons] at h
    have:=List.nodup_append.1 h
    rcases List.mem_cons.1 hb with rfl | hb
    · exact this.1
    · exact ih this.2.1 hb
theorem DeepTop0.one {x:Cx} {ys:List ST.rat.El} {s:Value} {us:List Value} (h:DeepTop0 x ys s us):s.oneCell'=true:=by
  rcases h with ⟨_,ad,rfl⟩ | ⟨_,_,_,_,rfl,_⟩<;>rfl
theorem zBV {x:Cx} {xs:List ST.rats.El} {vs:Array Value} (h:DeepOk x .rats xs (.tuple vs)) {i:Nat} {ys:List ST.rat.El} (he:xs[i]? = some ys) {ws:Array Value} (hv:vs[1+i]? = some (.tuple ws)) :
    ∃ u us,ws=(u :: us).toArray∧us.length=ys.length * ST.size .rat∧DeepTop0 x ys u us:=by
  obtain ⟨s,us,h1,h2,_,_,h4⟩:=h
  cases h1
  have hf:(flat .rats xs)[i]? = some (.sl .rat ys):=by rw[zgR,he]; rfl
  have hv':us[i]? = some (.tuple ws):=by
    rw[Nat.add_comm] at hv
    simpa using hv
  rcases h4 with ⟨k0,_⟩ | ⟨g,cap,cur,T,k1,k2,k3,k4,k5,k6,k7⟩
  · subst k0; cases he
  · obtain ⟨u,b,q1,q2,us2,e1,e2,e3⟩:=k7 _ _ hf
    rw[hv'] at q2; cases q2
    cases e1
    exact ⟨u,us2,rfl,e2,e3⟩
theorem DeepTop0.ok {x:Cx} {ys:List ST.rat.El} {u:Value} {us:List Value} (h:DeepTop0 x ys u us) (hl:us.length=ys.length * ST.size .rat) (hn:(zaE (.tuple (u :: us).toArray)).Nodup):DeepOk x .rat ys (.tuple (u :: us).toArray) :=
  ⟨u,us,rfl,hl,by rw[zmm (h.zNy hl)]; exact hn,rfl,h.deep⟩
theorem DeepTop0.zaq {x:Cx} {ys:List ST.rat.El} {u:Value} {us:List Value} (h:DeepTop0 x ys u us) (hl:us.length=ys.length * ST.size .rat):Go.Di.zaq (.tuple (u :: us).toArray)=zaE (.tuple (u :: us).toArray):=zmm (h.zNy hl)
end Go.Di
open Go.RowKit (Below)
namespace Go.Di
theorem zp7 (size:Nat) (place:Nat→Option (Nat × Nat)) (hp:∀ i,place i=some (i * size,size)):∀ (vs:List Value) (k:Nat) (cells:Array Value),(∀ v∈vs,v.cells.size=size)→(k+vs.length) * size≤cells.size →
    ∃ cells',Instr.fill place cells ((vs.zipIdx k).map fun p=>(p.2,p.1))=some cells'∧cells'.toList=cells.toList.take (k * size)++vs.flatMap (fun v=>v.cells.toList)++cells.toList.drop ((k+vs.length) * size)
  | [],k,cells,_,_=>⟨cells,rfl,by simp⟩
  | v :: vs,k,cells,h1,h2=>by
    simp only[List.length_cons] at h2
    have hv:=h1 v (List.mem_cons_self ..)
    have e0:(k+(vs.length+1)) * size=k * size+size+vs.length * size:=by rw[Nat.add_mul,Nat.add_mul]; omega
    have e1:(k+1+vs.length) * size=k * size+size+vs.length * size:=by rw[Nat.add_mul,Nat.add_mul]; omega
    obtain ⟨c1,q1,q2⟩:=zEd place cells k (k * size) size v ((vs.zipIdx (k+1)).map fun p=>(p.2,p.1)) (hp k) hv (by omega)
    have hl1:c1.size=cells.size:=by
      have:=congrArg List.length q2
      simp only[Array.length_toList,List.length_append,List.length_take,List.length_drop] at this
      omega
    obtain ⟨c2,q3,q4⟩:=zp7 size place hp vs (k+1) c1 (fun u hu=>h1 u (List.mem_cons_of_mem _ hu)) (by omega)
    refine ⟨c2,by simp only[List.zipIdx_cons,List.map_cons]; rw[q1]; exact q3,?_⟩
    rw[q4,q2]
    have hlt:(cells.toList.take (k * size)).length=k * size:=by rw[List.length_take,Array.length_toList]; omega
    have a1:(cells.toList.take (k * size)++v.cells.toList++cells.toList.drop (k * size+size)).take ((k+1) * size)=cells.toList.take (k * size)++v.cells.toList:=by
      apply List.take_left'
      rw[List.length_append,hlt,Array.length_toList,hv,Nat.add_mul,Nat.one_mul]
    have a2:(cells.toList.take (k * size)++v.cells.toList++cells.toList.drop (k * size+size)).drop ((k+1+vs.length) * size)=cells.toList.drop ((k+(vs.length+1)) * size):=by
      have hl2:(cells.toList.take (k * size)++v.cells.toList).length=k * size+size:=by rw[List.length_append,hlt,Array.length_toList,hv]
      rw[e0,e1,← hl2,List.drop_length_add_append,List.drop_drop]
    rw[a1,a2]
    simp[List.append_assoc]
section
variable {P:Program} {C:Bs} {w w':World} {s s':St} {X:Nat→Prop} {β β':Nat→Option Value} {a:Act} {o:Oper} {tm:Array Value}
  {t:TypeId} {x y:Operand} {i:TI} {K:Act→World→Prop} {Q:Exit→Act→World→Prop} {lay:List (TypeId × TI)} {cons:List (FuncId × Con)} {av:AV}
theorem elemsOf_spec {ps:List (Nat × Operand)} (hop:∀ (j:Nat) (z:Operand),(j,z)∈ps→zaR (cx C s β w) (zaW s z) (a.eval z)) (g:Gam C s X β a.tmps w) {e:ST}:∀ (k:Nat) {es:List e.El} {cs:List A1},elemsOf s e k ps=some (es,cs) →
    ps.map (fun p=>(p.1,a.eval p.2))=((ps.map fun p=>a.eval p.2).zipIdx k).map (fun p=>(p.2,p.1))∧(∀ v∈ps.map (fun p=>a.eval p.2),v.cells.size=e.size∧∀ u∈v.cells.toList,u.oneCell'=true)∧es.length=ps.length ∧
      (∀ (l:List A1),(∀ b∈cs,b∈l)→∀ (j:Nat) (c:Cell),(flat e es)[j]? = some c→∃ u,((ps.map fun p=>a.eval p.2).flatMap fun v=>v.cells.toList)[j]? = some u∧(cx C ⟨s.env,zau l s.ents⟩ β w).rd u c) ∧
      zck (cx C s β w) cs ((ps.map fun p=>a.eval p.2).flatMap fun v=>v.cells.toList)∧∀ (j:Nat) (c:Cell),(flat e es)[j]? = some c→∃ b ck z,cs[j]? = some b∧b.as s.ents ck=some z∧c=ck.cell z:=by
  induction ps with
  | nil=>intro k es cs h; simp only[elemsOf] at h; cases h; exact ⟨rfl,(fun v hv=>by cases hv),rfl,(fun l _ j c hj=>by simp[flat] at hj),trivial,fun j c hj=>by simp[flat] at hj⟩
  | cons q ps ih =>
    intro k es cs h
    obtain ⟨j0,z⟩:=q
    simp only[elemsOf] at h
    split at h
    · rename_i hj0
      have hj0:k=j0:=by simpa using hj0
      subst hj0
      split at h
      · rename_i c hc
        split at h
        · rename_i el hel
          split at h
          · rename_i p hp
            cases h
            obtain ⟨h1,h2,h3,h4,h5,h6⟩:=ih (fun j z hm=>hop j z (List.mem_cons_of_mem _ hm)) (k+1) (es:=p.1) (cs:=p.2) hp
            obtain ⟨xt,q1,rfl⟩:=zij hel
            obtain ⟨hcv,_⟩:=zik (hop k z (List.mem_cons_self ..)) hc
            have hl:=zmj q1
            rw[zrP] at hl
            have hcl:=hcv.length
            simp only[Array.length_toList] at hcl
            refine ⟨by simp only[List.map_cons,List.zipIdx_cons,h1],fun v hv=>?_,by simp[h3],fun l hcs j cc hj=>?_,?_,fun j cc hj=>?_⟩
            · simp only[List.map_cons,List.mem_cons] at hv
              rcases hv with rfl | hv
              · exact ⟨by omega,hcv.one⟩
              · exact h2 v hv
            · have hfl:flat e (e.mk xt :: p.1)=e.cells (e.mk xt)++flat e p.1:=by simp[flat]
              rw[hfl] at hj
              simp only[List.map_cons,List.flatMap_cons]
              by_cases hlt:j < e.size
              · rw[List.getElem?_append_left (by rw[zao]; exact hlt),ze5] at hj
                obtain ⟨u,hu,hr⟩:=as_stored g (l:=l) (fun b hb=>hcs b (List.mem_append_left _ hb)) hcv q1 j cc hj
                exact ⟨u,by rw[List.getElem?_append_left (by simp; omega)]; exact hu,hr⟩
              · rw[List.getElem?_append_right (by rw[zao]; omega),zao] at hj
                obtain ⟨u,hu,hr⟩:=h4 l (fun b hb=>hcs b (List.mem_append_right _ hb)) _ cc hj
                exact ⟨u,by rw[List.getElem?_append_right (by simp; omega)]; simpa [← hcl,hl] using hu,hr⟩
            · simp only[List.map_cons,List.flatMap_cons]
              exact hcv.append h5
            · have hfl:flat e (e.mk xt :: p.1)=e.cells (e.mk xt)++flat e p.1:=by simp[flat]
              rw[hfl] at hj
              by_cases hlt:j < e.size
              · rw[List.getElem?_append_left (by rw[zao]; exact hlt),ze5] at hj
                obtain ⟨b,ck,z,g1,g2,g3⟩:=zf3 q1 j cc hj
                exact ⟨b,ck,z,by rw[List.getElem?_append_left (by omega)]; exact g1,g2,g3⟩
              · rw[List.getElem?_append_right (by rw[zao]; omega),zao] at hj
                obtain ⟨b,ck,z,g1,g2,g3⟩:=h6 _ cc hj
                exact ⟨b,ck,z,by rw[List.getElem?_append_right (by omega),hl]; exact g1,g2,g3⟩
          · cases h
        · cases h
      · cases h
    · cases h
theorem sound_oneDeep {E:TypeId} (hu:P.underlying t=some (.slice E)) {einf:TypeInfo} {ez:Value} (q1:P.info? E=some einf) (q2:einf.size=ST.size .rats) (q4:einf.zero=some ez) {ps:Array (Nat × Operand)} (ho:o.op = .buildSlice t 1 ps) (g:Gam C s X β a.tmps w)
    (hx:∀ (j:Nat) (z:Operand),(j,z)∈ps.toList→zaR (cx C s β w) (zaW s z) (a.eval z)) {m:Nat} {ys:List Rt} (h:oneDeep s ps.toList=some (m,ys))
    (hK:Goes C X o a (.one (.dp (nm (o.dst.getD 0)))) ((s.free m).push (nm (o.dst.getD 0)) (.deep false .rats [ys])) K):o.wp P a w K Q:=by
  unfold oneDeep at h
  split at h
  case h_2=>cases h
  rename_i z hps
  split at h
  case h_2=>cases h
  rename_i m' hz
  split at h
  case h_2=>cases h
  rename_i ys' hl
  split at h
  · cases h
  rename_i h63
  cases h
  have hv:=hx 0 z (by rw[hps]; exact List.mem_cons_self ..)
  rw[hz] at hv
  obtain ⟨a1,e1,hdp,_⟩:=hv
  cases e1
  obtain ⟨ws,hβ,hw0⟩:=hdp (by simp[cx,hl])
  obtain ⟨sv,us,e1,hus,hnd,_,hT⟩:=g.ents m _ _ hl hβ
  cases e1
  have hsv:sv=a.eval z:=by simpa using hw0
  have hT0:=hT.zero
  have hone:(a.eval z).oneCell'=true:=by rw[← hsv]; exact hT0.one
  have hcells:(a.eval z).cells=#[a.eval z]:=by
    revert hone
    cases a.eval z<;>first | (intro _; rfl) | (intro h; simp[Value.oneCell'] at h)
  have hsz1:ST.size .rats=1:=rfl
  obtain ⟨cells,c1,c2⟩:=zp7 1 (fun i=>some (i * 1,1)) (fun _=>rfl) [a.eval z] 0 ((Array.range (1 * 1)).map (ez.cells[· % ez.cells.size]!)) (fun v hv=>by rw[List.mem_singleton.1 hv,hcells]; rfl) (by simp)
  have hcl:cells.toList=[a.eval z]:=by
    rw[c2]
    simp[hcells]
  have mach:(execOp a.eval o).run P w = .ok (.value (.slice (some ⟨w.heap.size,0,none⟩) 1 1)) (w.alloc (.cells cells E)):=by
    have c1':Instr.fill (fun i=>some (i,1)) ((Array.range 1).map fun x=>ez.cells[x % ez.cells.size]!) [(0,a.eval z)]=some cells:=by simpa using c1
    have hpl:ps=#[(0,z)]:=Array.ext' hps
    simp[execOp,ho,hpl,Instr.buildSlice,run_underlying hu,sizeOf,typeInfo,zeroValue,q1,q2,q4,hsz1,newRow,c1']
  have hlt:∀ b∈zaq (.tuple (sv :: us).toArray),b < w.heap.size:=fun b hb=>(g.fresh b ⟨m,_,_,hl,rfl,hβ,hb⟩).2
  have htt:=hT0.zaq hus
  have gp := g.zhl (w':=w.alloc (.cells cells E)) (n:=nm (o.dst.getD 0)) (u := .rats) (xs:=[ys]) (vs:=(Value.slice (some ⟨w.heap.size,0,none⟩) 1 1 :: [Value.tuple (sv :: us).toArray]).toArray) (K:=[m]) (zfd _)
    (fun k hk=>by rw[List.mem_singleton.1 hk]; exact ⟨_,hl,rfl⟩) (fun b hlt _=>(zaU w _).block b hlt) (zaU w _).size (Kp.of (zaU w _) g.kb) (fun b hb=>by
      have hb:b∈(Value.slice (some ⟨w.heap.size,0,none⟩) 1 1 :: [Value.tuple (sv :: us).toArray]).flatMap zaE:=hb
      rw[List.flatMap_cons] at hb
      rcases List.mem_append.1 hb with hb | hb
      · have hb:b∈[w.heap.size]:=hb
        rw[List.mem_singleton.1 hb]; exact .inl ⟨Nat.le_refl _,by simp⟩
      · right
        refine ⟨m,List.mem_singleton.2 rfl,_,hβ,?_⟩
        rw[htt]
        have hb:b∈zaE (.tuple (sv :: us).toArray)++[]:=hb
        rwa [List.append_nil] at hb) (fun yc hyw=>by
      refine ⟨_,_,rfl,rfl,?_,rfl,.inr ⟨w.heap.size,1,cells,E,rfl,Nat.one_pos,Nat.le_refl _,by unfold maxLen; omega,by rw[hyw]; exact heap_alloc w _,by rw[← Array.length_toList,hcl]; rfl,fun j c hj=>?_⟩⟩
      · have hn2:(zaE (.tuple (sv :: us).toArray)).Nodup:=by rw[← htt]; exact hnd
        rw[List.flatMap_cons]
        refine List.nodup_append.2 ⟨zeO (zdD ..),(by show (zaE (.tuple (sv :: us).toArray)++[]).Nodup; rw[List.append_nil]; exact hn2),fun b h1 b' h2 he=>?_⟩
        subst he
        have h1:b∈[w.heap.size]:=h1
        have h2:b∈zaE (.tuple (sv :: us).toArray)++[]:=h2
        rw[List.append_nil] at h2
        have:=hlt b (by rw[htt]; exact h2)
        have:=List.mem_singleton.1 h1
        omega
      · rw [zgR] at hj
        cases j with
        | succ j=>exact absurd hj (by intro h; cases h)
        | zero =>
          have hj:some (Cell.sl .rat ys)=some c:=hj
          cases hj
          refine ⟨a.eval z,.tuple (sv :: us).toArray,by rw[← Array.getElem?_toList,hcl]; rfl,rfl,us,by rw[hsv],hus,?_⟩
          rw[← hsv]
          refine hT0.go fun k hk=>?_
          rw[hyw]
          exact (zaU w _).block k (hlt k (by rw[htt]; exact hk)))
  exact zdX mach (hK _ _ _ gp (zbT (a := .dp _) (fun _=>⟨_,upd_same ..,by simp⟩) rfl))
theorem sound_buildSlice (hL:zcC P lay) {len:Nat} {ps:Array (Nat × Operand)} (hlen24:len≤1000) (ho:o.op = .buildSlice t len ps) (g:Gam C s X β a.tmps w) (hx:∀ (j:Nat) (z:Operand),(j,z)∈ps.toList→zaR (cx C s β w) (zaW s z) (a.eval z))
    (hps:len=0→ps.toList=[]) (hy:(evalOp lay cons o s).Yields (av,s')) (hK:Goes C X o a av s' K):o.wp P a w K Q:=by
  simp only[evalOp,ho] at hy
  split at hy
  · rename_i _ _ _ e _ _ _ hi
    obtain ⟨inf,d,z,_,hu,_,_,_,_,_,hel,_⟩:=hL t _ hi
    obtain ⟨E,rfl,einf,ez,q1,q2,q3,q4,q5⟩:=hel e rfl
    split at hy
    · cases hy
      have hpe:=hps rfl
      have hpe':ps=#[]:=by simpa using hpe
      refine zdX (v := .slice (some ⟨w.heap.size,0,none⟩) 0 0) (w':=w.alloc (.cells #[] E)) ?_ (hK _ _ β (g.grown (zaU w _)) (zbT (a := .mt) ⟨_,rfl⟩ rfl))
      simp[execOp,ho,Instr.buildSlice,run_underlying hu,sizeOf,typeInfo,q1,hpe',Instr.fill,newRow]
      exact congrArg (fun c=>w.alloc (.cells c E)) (Array.eq_empty_of_size_eq_zero (by simp))
    · rename_i hlen0
      split at hy
      · rename_i hdr
        split at hy
        · rename_i m ys hlen1 hone
          have hlen1:len=1:=Nat.eq_of_beq_eq_true hlen1
          subst hlen1
          have her:e = .rats:=by
            unfold zDQ at hdr
            rw[hi] at hdr
            revert hdr
            cases e<;>first | (intro _; rfl) | (intro h; cases h)
          subst her
          obtain ⟨rfl,rfl⟩:=Prod.mk.inj hy
          exact sound_oneDeep hu q1 q2 q4 ho g hx hone hK
        · exact hy.elim
      split at hy
      · rename_i es cs hes
        split at hy
        · rename_i hlb
          have hlb:es.length=len:=by simpa using hlb
          obtain ⟨h1,h2,h3,h4,h5',h6'⟩:=elemsOf_spec hx g 0 hes
          have h4:=h4 cs (fun b hb=>hb)
          have hsz:=size_pos e
          have hlp:0 < len:=by
            rcases Nat.eq_zero_or_pos len with h | h
            · exact (hlen0 h).elim
            · exact h
          have hpl:ps.size=len:=by rw[← hlb,h3]; simp
          have hm:len * e.size≤1000 * 9:=Nat.mul_le_mul hlen24 (by cases e<;>decide)
          have hmne:¬ len * e.size=0:=by
            have:=Nat.mul_pos hlp hsz; omega
          have hz0:((Array.range (len * e.size)).map (ez.cells[· % ez.cells.size]!)).size=len * e.size:=by simp
          obtain ⟨cells,e1,e2⟩:=zp7 e.size (fun i=>some (i * e.size,e.size)) (fun _=>rfl) (ps.toList.map fun p=>a.eval p.2) 0 ((Array.range (len * e.size)).map (ez.cells[· % ez.cells.size]!))
            (fun v hv=>(h2 v hv).1) (by simp[hpl])
          rw[← h1] at e1
          have hcl:cells.toList=(ps.toList.map fun p=>a.eval p.2).flatMap fun v=>v.cells.toList:=by
            rw[e2]
            simp only[Nat.zero_mul,List.take_zero,List.nil_append,Nat.zero_add]
            rw[List.drop_of_length_le (by simp[hpl]),List.append_nil]
          have hcs:cells.size=len * e.size:=by
            have h5:∀ vs:List Value,(∀ v∈vs,v.cells.size=e.size)→(vs.flatMap fun v=>v.cells.toList).length=vs.length * e.size:=by
              intro vs
              induction vs with
              | nil=>intro _; simp
              | cons v vs ih=>intro h; simp only[List.flatMap_cons,List.length_append,Array.length_toList,h v (List.mem_cons_self ..),ih fun u hu=>h u (List.mem_cons_of_mem _ hu),List.length_cons,Nat.add_mul]; omega
            have:=congrArg List.length hcl
            rw[Array.length_toList,h5 _ fun v hv=>(h2 v hv).1,List.length_map,← h3,hlb] at this
            exact this
          have mach:(execOp a.eval o).run P w = .ok (.value (.slice (some ⟨w.heap.size,0,none⟩) len len)) (w.alloc (.cells cells E)):=by
            have hnot:¬ (16777216 < len * e.size):=by omega
            have e1':Instr.fill (fun i=>some (i * e.size,e.size)) ((Array.range (len * e.size)).map fun x=>ez.cells[x % ez.cells.size]!) (List.map (fun p=>(p.1,a.eval p.2)) ps.toList)=some cells:=e1
            simp[execOp,ho,Instr.buildSlice,run_underlying hu,sizeOf,typeInfo,zeroValue,q1,q2,q4,hnot,hmne,newRow]
            simp[e1']
          have zNy:∀ b∈zaE (.slice (some ⟨w.heap.size,0,none⟩) len len),b=w.heap.size:=fun b hb=>by
            cases len with
            | zero=>omega
            | succ k=>simpa [zaE] using hb
          split at hy
          · rename_i hdt
            have hcd:=zoU hdt hi rfl
            split at hy
            · rename_i Kn habs
              split at hy
              · rename_i hnd
                cases hy
                obtain ⟨r1,r2⟩:=ziq g h5' habs (zfc hnd)
                have hcl5:=h5'.length
                have hcsl:cs.length=len * e.size:=by rw[hcl5,← hcl,Array.length_toList,hcs]
                have hKm:∀ k∈Kn,∃ e,look k s.ents=some e∧e.mut=true:=fun k hk=>by
                  obtain ⟨ys,h⟩:=zhS habs k hk; exact ⟨_,h,rfl⟩
                have gp:=g.zhl (w':=w.alloc (.cells cells E)) (n:=nm (o.dst.getD 0)) (u:=e) (xs:=es) (vs:=(Value.slice (some ⟨w.heap.size,0,none⟩) len len :: zor cs ((ps.toList.map fun p=>a.eval p.2).flatMap fun v=>v.cells.toList)).toArray) (zfd _) hKm
                  (fun b hlt _=>(zaU w _).block b hlt) (zaU w _).size (Kp.of (zaU w _) g.kb) (fun b hb=>by
                    have hb:b∈(Value.slice (some ⟨w.heap.size,0,none⟩) len len :: zor cs ((ps.toList.map fun p=>a.eval p.2).flatMap fun v=>v.cells.toList)).flatMap zaE:=hb
                    rw[List.flatMap_cons] at hb
                    rcases List.mem_append.1 hb with hb | hb
                    · have:=zNy b hb; subst this; exact .inl ⟨Nat.le_refl _,by simp⟩
                    · obtain ⟨m,hm,v,h1,h2⟩:=r2 b hb; exact .inr ⟨m,hm,v,h1,h2⟩) (fun yc hyw=>by
                    refine ⟨_,_,rfl,?_,?_,zkY hcd,.inr ⟨w.heap.size,len,cells,E,by rw[hlb],hlp,by omega,by unfold maxLen; omega,by rw[hyw]; exact heap_alloc w _,hcs,fun j c hj=>?_⟩⟩
                    · rw[zfQ hcl5,hcsl,hlb]
                    · rw[List.flatMap_cons]
                      refine List.nodup_append.2 ⟨zeO (zdD ..),r1,fun b h1 b' h2 he=>?_⟩
                      subst he
                      have:=zNy b h1
                      obtain ⟨m,hm,v,k1,k2⟩:=r2 b h2
                      obtain ⟨e0,g1,g2⟩:=hKm m hm
                      have:=(g.fresh b ⟨m,e0,v,g1,g2,k1,k2⟩).2
                      omega
                    · obtain ⟨b,ck,z,g1,g2,g3⟩:=h6' j c hj
                      obtain ⟨v,hv,hok,_⟩:=h5'.get g1
                      obtain ⟨k1,ha1,ha2⟩:=zks habs g1
                      refine ⟨v,zFB b v,by rw[← Array.getElem?_toList,hcl]; exact hv,ziM g1 hv,?_⟩
                      subst g3
                      refine zsZ g hok ha1 g2 (fun t2 xs2 hh=>zsK hcd (by rw[← hh]; exact hj)) fun k hk=>?_
                      rw[hyw]
                      refine (zaU w _).block k ?_
                      obtain ⟨m,hm,v2,h3,h4⟩:=zoj hok ha1 k hk
                      obtain ⟨e0,g1,g2⟩:=hKm m (ha2 m hm)
                      exact (g.fresh k ⟨m,e0,v2,g1,g2,h3,h4⟩).2)
                exact zdX mach (hK _ _ _ gp (zbT (a := .dp _) (fun _=>⟨_,upd_same ..,by simp⟩) rfl))
              · exact hy.elim
            · exact hy.elim
          · cases hy
            have gp:=(g.zau cs).zhk (zaU w (.cells cells E)) (hnm:=zfd _) (n:=nm (o.dst.getD 0)) (e := .arr false e es) (v := .slice (some ⟨w.heap.size,0,none⟩) len len) (fun b hb=>by
                cases len with
                | zero=>omega
                | succ k=>simp[zaq] at hb; subst hb; simp) fun hle => .inr ⟨w.heap.size,len,cells,E,by rw[hlb],hlp,by omega,by unfold maxLen; omega,heap_alloc w _,hcs,fun j c hj=>by
                obtain ⟨u,hu,hr⟩:=h4 j c hj
                exact ⟨u,by rw[← Array.getElem?_toList,hcl]; exact hu,hle.rd ((zkm _).rd hr)⟩⟩
            exact zdX mach (hK _ _ _ gp (zbT (a := .own _) (fun _ _ _ _=>upd_same ..) rfl))
        · exact hy.elim
      · exact hy.elim
  · exact hy.elim
theorem zG3 {x:Cx} {fr:Bool} {t:ST} {xs:List t.El} {vs:Array Value} {v:Value} (h:EntOk x (.deep fr t xs) (.tuple vs)) (h0:vs[0]? = some v):(zin x.w x.β fun _=>True).rd v (.sl t xs):=by
  cases fr with
  | false=>exact zEp h h0 fun _ _=>trivial
  | true=>exact zng (zqa h h0) fun _ _ _ _=>trivial
theorem zEr {x:Cx} {fr:Bool} {t:ST} {xs:List t.El} {vs:Array Value} {v:Value} (h:EntOk x (.deep fr t xs) (.tuple vs)) {i off:Nat} {e:t.El} {ys:List Int} (he:xs[i]? = some e) (hoff:off < t.size) (hc:(t.cells e)[off]? = some (.sl .int ys))
    (hv:vs[1+i * t.size+off]? = some v):(zin x.w x.β fun _=>True).rd v (.sl .int ys):=by
  cases fr with
  | false=>exact zB2 (znY h he hoff hc hv) fun _ _=>trivial
  | true=>exact zng (zo5 h he hoff hc hv) fun _ _ _ _=>trivial
theorem zBe {ts:Array TypeId} (ho:o.op = .call { callee := .builtin .max,args:=#[x,y],argTypes:=ts }) (g:Gam C s X β a.tmps w) (hx:zaR (cx C s β w) (zaW s x) (a.eval x)) (hx2:zaR (cx C s β w) (zaW s y) (a.eval y))
    (hy:(evalOp lay cons o s).Yields (av,s')) (hK:Goes C X o a av s' K):o.wp P a w K Q:=by
  simp only[evalOp,ho] at hy
  split at hy
  · rename_i k m k' n h1 h2
    cases hy
    rw[h1] at hx; rw[h2] at hx2
    have v1:=zd9 hx
    have v2:=zd9 hx2
    have hr:(execOp a.eval o).run P w = .ok (.value (.int k (cond (decide (n > m)) n m))) w:=by
      by_cases h:n > m
      · simp[execOp,ho,resolve,invoke,builtin,Builtin.max_,Builtin.max2,v1,v2,h]
      · simp[execOp,ho,resolve,invoke,builtin,Builtin.max_,Builtin.max2,v1,v2,h]
    exact zal hr g zaS hK
  · exact hy.elim
theorem sound_len (hL:zcC P lay) (ho:o.op = .call { callee := .builtin .len,args:=#[x],argTypes:=#[t] }) (g:Gam C s X β a.tmps w) (hx:zaR (cx C s β w) (zaW s x) (a.eval x))
    (hy:(evalOp lay cons o s).Yields (av,s')) (hK:Goes C X o a av s' K):o.wp P a w K Q:=by
  simp only[evalOp,ho] at hy
  split at hy
  · rename_i i b hi hb
    have hT:=hL t i hi
    rw[zcn hb] at hx
    have hT':=hT
    unfold lenOp at hy
    split at hy
    · split at hy
      · rename_i hs
        cases hy
        exact zal (zt9 hT (zwF hs) ho (zk4 hx)) g zaS hK
      · exact hy.elim
    · split at hy
      · exact hy.elim
      · rename_i e he
        obtain ⟨a1,h1,h2,hx3⟩:=hx; cases h1
        split at hy
        · cases hy
          obtain ⟨ad,cap,hv,_⟩:=znf h2
          exact zal (zla hT he ho hv) g zaS hK
        · cases hy
          obtain ⟨ad,hv⟩:=h2
          exact zal (zla hT he ho hv) g zaS hK
        · split at hy
          · rename_i fr u xs hl
            cases hy
            obtain ⟨ad,cap,hv,_⟩:=zoh (g.ents _ _ _ hl (h2 _ _ _ hl))
            exact zal (zla hT he ho hv) g zaS hK
          · exact hy.elim
        · split at hy
          · rename_i u xs hl
            cases hy
            obtain ⟨vs,k1,k2⟩:=h2 (by simp[cx,hl])
            obtain ⟨ad,cap,hv,_⟩:=znf (zG3 (g.ents _ _ _ hl k1) k2)
            exact zal (zla hT' he ho hv) g zaS hK
          · exact hy.elim
        · split at hy
          · exact hy.elim
          · rename_i n i2 off ys _ _ u xs hnr hl
            cases hy
            obtain ⟨hoff,el,k1,⟨_,k2,vs,k3,k4⟩ | ⟨hr,_⟩⟩:=h2 _ u xs hl
            case inr=>subst hr; exact (hnr _ rfl HEq.rfl).elim
            obtain ⟨ad,cap,hv,_⟩:=znf (zEr (g.ents _ _ _ hl k3) k1 hoff k2 k4)
            exact zal (zla hT' he ho hv) g zaS hK
          · exact hy.elim
        · split at hy
          · rename_i fr u xs hl
            cases hy
            obtain ⟨_,ad,m,cap,_,_,hv⟩:=h2 fr u xs hl
            exact zal (zla hT he ho hv) g zaS hK
          · exact hy.elim
        · exact hy.elim
  · exact hy.elim
theorem sound_appendD (hT:zg1 P t i) {e:ST} (he:i.elem=some e) (ho:o.op = .call { callee := .builtin .append,args:=#[x,y],argTypes:=#[t,t] }) (g:Gam C s X β a.tmps w) {b:A1} {m:Nat}
    (hx:zaR (cx C s β w) (.v false [b]) (a.eval x)) (hz:zaR (cx C s β w) (.v false [.dp m]) (a.eval y)) {d:Nat}
    (hy:(appendD s d e b m).Yields (av,s')) (hK:Goes C X o a av s' K):o.wp P a w K Q:=by
  obtain ⟨a1,h1,h2,hx3⟩:=hx; cases h1
  obtain ⟨a2,h3,h4,hz3⟩:=hz; cases h3
  unfold appendD at hy
  split at hy
  · rename_i u ys0 hlm
    split at hy
    · rename_i ys hys
      obtain ⟨rfl,rfl⟩:=cast_eq hys
      obtain ⟨vsB,k1,k2⟩:=h4 (by simp[cx,hlm])
      obtain ⟨vb,ub,e1,hub,hnb,hcd,hB⟩:=g.ents m _ _ hlm k1
      cases e1
      have hvb:vb=a.eval y:=by simpa using k2
      have tB:∀ b∈(vb :: ub).flatMap zaE,∃ z,β m=some z∧b∈zaq z:=fun b hb=>⟨_,k1,by simpa [zaq] using hb⟩
      split at hy
      · obtain ⟨q,hq,hf⟩:=hy
        cases hf
        obtain ⟨ad,hva⟩:=h2
        exact append_deep hT he hcd ho g d (Kn:=[m]) (xs:=[]) (va := .slice ad 0 0) (ua:=[]) hva hvb.symm (.inl ⟨rfl,ad,rfl⟩) hB (by simp) hub (by cases ad<;>simp[zaE]) hnb (fun b hb=>by cases ad<;>simp[zaE] at hb)
          (fun b hb=>by cases ad<;>simp[zaE] at hb) (fun b hb=>⟨m,by simp,tB b hb⟩) (fun k hk=>by have:=List.mem_singleton.1 hk; subst this; exact ⟨_,hlm,rfl⟩) (by simpa using Nat.le_of_ble_eq_true (zdi hq)) hK
      · rename_i n
        split at hy
        · rename_i v xs0 hbeq hl
          split at hy
          · rename_i xs hxs
            obtain ⟨rfl,rfl⟩:=cast_eq hxs
            obtain ⟨q,hq,hf⟩:=hy
            cases hf
            have hne:n≠m:=Nat.ne_of_beq_eq_false hbeq
            obtain ⟨vsA,p1,p2⟩:=h2 (by simp[cx,hl])
            obtain ⟨va,ua,e2,hua,hna,_,hA⟩:=g.ents n _ _ hl p1
            cases e2
            have hva:va=a.eval x:=by simpa using p2
            have tA:∀ b∈(va :: ua).flatMap zaE,∃ z,β n=some z∧b∈zaq z:=fun b hb=>⟨_,p1,by simpa [zaq] using hb⟩
            exact append_deep hT he hcd ho g d (Kn:=[n,m]) hva.symm hvb.symm hA hB hua hub hna hnb (fun b hb hb'=>by
                obtain ⟨z,z1,z2⟩:=tA b hb
                obtain ⟨z',z3,z4⟩:=tB b hb'
                exact hne (g.uniq n m _ _ z z' b hl hlm rfl rfl z1 z3 z2 z4))
              (fun b hb=>⟨n,by simp,tA b hb⟩) (fun b hb=>⟨m,by simp,tB b hb⟩) (fun k hk=>by
                rcases List.mem_cons.1 hk with rfl | hk
                · exact ⟨_,hl,rfl⟩
                · have:=List.mem_singleton.1 hk; subst this; exact ⟨_,hlm,rfl⟩) (Nat.le_of_ble_eq_true (zdi hq)) hK
          · exact hy.elim
        · exact hy.elim
      · exact hy.elim
    · exact hy.elim
  · exact hy.elim
theorem sound_append (hL:zcC P lay) {u:TypeId} (ho:o.op = .call { callee := .builtin .append,args:=#[x,y],argTypes:=#[t,u] }) (g:Gam C s X β a.tmps w) (hx:zaR (cx C s β w) (zaW s x) (a.eval x)) (hz:zaR (cx C s β w) (zaW s y) (a.eval y))
    (hy:(evalOp lay cons o s).Yields (av,s')) (hK:Goes C X o a av s' K):o.wp P a w K Q:=by
  simp only[evalOp,ho] at hy
  split at hy
  · rename_i hbeq hi hb1 hb2
    have htu:t=u:=by simpa using hbeq
    subst htu
    have hT:=hL t _ hi
    rw[zcn hb1] at hx
    rw[zcn hb2] at hz
    split at hy
    · exact sound_appendD hT rfl ho g hx hz hy hK
    unfold appendOp at hy
    split at hy
    · rename_i ys hys
      split at hy
      · obtain ⟨q,hq,hf⟩:=hy
        cases hf
        obtain ⟨a1,h1,h2,_⟩:=hx; cases h1; obtain ⟨ad,h2⟩:=h2
        exact append_mt hT rfl ho g _ h2 hz hys (Nat.le_of_ble_eq_true (zdi hq)) hK
      · split at hy
        · rename_i v xs0 hl
          split at hy
          · rename_i xs hxs
            obtain ⟨rfl,rfl⟩:=cast_eq hxs
            obtain ⟨q,hq,hf⟩:=hy
            cases hf
            exact append_own hT rfl ho g _ hl hx hz hys (Nat.le_of_ble_eq_true (zdi hq)) hK
          · exact hy.elim
        · exact hy.elim
      · exact hy.elim
    · exact hy.elim
  · exact hy.elim
theorem zkK {l:List Operand} (hx:∀ z∈l,zaR (cx C s β w) (zaW s z) (a.eval z)):∀ (j:Nat) av v,(opsL s l)[j]? = some av→(l.map a.eval)[j]? = some v→zaR (cx C s β w) av v:=by
  induction l with
  | nil=>intro j av v h; simp[opsL] at h
  | cons z r ih =>
    intro j av v h1 h2
    cases j with
    | zero=>simp[opsL] at h1 h2; subst h1; subst h2; exact hx z (List.mem_cons_self ..)
    | succ j=>simp[opsL] at h1 h2; exact ih (fun z hz=>hx z (List.mem_cons_of_mem _ hz)) j av v h1 (by simpa using h2)
theorem zcZ:∀ l,(opsL s l).length=l.length
  | []=>rfl
  | _ :: r=>by simp[opsL,zcZ r]
theorem zlm:∀ (l:List (Bool × List C1T)) (e:List AV),zou (l.map some) e=zvt l e
  | [],[]=>rfl
  | [],_ :: _=>rfl
  | _ :: _,[]=>rfl
  | (b,l) :: r,.v _ m :: e=>by
    show zmu l m++zou (r.map some) e=zmu l m++zvt r e
    rw[zlm r e]
  | (b,l) :: r,.tup _ :: e=>by
    show zou (r.map some) e=zvt r e
    exact zlm r e
theorem box_frz {n:Nat} {m:List A1} (l:List A1) (es:List (Nat × Ent)):look n (zau l es)=some (.box m)↔look n es=some (.box m):=by
  induction l generalizing es with
  | nil=>exact Iff.rfl
  | cons a r ih =>
    have one:look n (a.freeze es)=some (.box m)↔look n es=some (.box m):=by
      have f1:∀ k,look n (freeze1 k es)=some (.box m)↔look n es=some (.box m):=fun k=>by
        rw[look_freeze1]
        split
        · cases hl:look n es with
          | none=>simp
          | some f=>cases f<;>simp[frz]
        · exact Iff.rfl
      cases a<;>simp only[A1.freeze]<;>first | exact Iff.rfl | exact f1 _
    exact (ih _).trans one
theorem pairsE_frz (c:List A1) (es:List (Nat × Ent)) (p:List (Nat × Nat)):∀ l:List (Nat × ET),zno (zau c es) p l=zno es p l
  | []=>rfl
  | (n,.arr _ _) :: r=>pairsE_frz c es p r
  | (n,.deep _) :: r=>pairsE_frz c es p r
  | (n,.pool) :: r=>pairsE_frz c es p r
  | (n, .box l) :: r=>by
    have ih:=pairsE_frz c es p r
    have hb:=@box_frz (zaF p n)
    simp only[zno]
    cases h:look (zaF p n) es with
    | none =>
      cases h':look (zaF p n) (zau c es) with
      | none=>exact ih
      | some f=>cases f with
        | box m=>rw[(hb c es).1 h'] at h; cases h
        | arr _ _ _=>exact ih
        | deep _ _ _=>exact ih
        | pool _=>exact ih
    | some f =>
      cases f with
      | box m=>rw[(hb c es).2 h]; simp only[]; rw[ih]
      | arr _ _ _ =>
        cases h':look (zaF p n) (zau c es) with
        | none=>exact ih
        | some f=>cases f with
          | box m=>rw[(hb c es).1 h'] at h; cases h
          | arr _ _ _=>exact ih
          | deep _ _ _=>exact ih
          | pool _=>exact ih
      | deep _ _ _ =>
        cases h':look (zaF p n) (zau c es) with
        | none=>exact ih
        | some f=>cases f with
          | box m=>rw[(hb c es).1 h'] at h; cases h
          | arr _ _ _=>exact ih
          | deep _ _ _=>exact ih
          | pool _=>exact ih
      | pool _ =>
        cases h':look (zaF p n) (zau c es) with
        | none=>exact ih
        | some f=>cases f with
          | box m=>rw[(hb c es).1 h'] at h; cases h
          | arr _ _ _=>exact ih
          | deep _ _ _=>exact ih
          | pool _=>exact ih
theorem dataE_frz (c:List A1) (es:List (Nat × Ent)) (p:List (Nat × Nat)):∀ l:List (Nat × ET),zkr (zau c es) p l=zkr es p l
  | []=>rfl
  | (n,.arr _ _) :: r=>dataE_frz c es p r
  | (n,.deep _) :: r=>dataE_frz c es p r
  | (n,.pool) :: r=>dataE_frz c es p r
  | (n, .box l) :: r=>by
    have ih:=dataE_frz c es p r
    have hb:=@box_frz (zaF p n)
    simp only[zkr]
    cases h:look (zaF p n) es with
    | none =>
      cases h':look (zaF p n) (zau c es) with
      | none=>exact ih
      | some f=>cases f with
        | box m=>rw[(hb c es).1 h'] at h; cases h
        | arr _ _ _=>exact ih
        | deep _ _ _=>exact ih
        | pool _=>exact ih
    | some f =>
      cases f with
      | box m=>rw[(hb c es).2 h]; simp only[]; rw[ih]
      | arr _ _ _ =>
        cases h':look (zaF p n) (zau c es) with
        | none=>exact ih
        | some f=>cases f with
          | box m=>rw[(hb c es).1 h'] at h; cases h
          | arr _ _ _=>exact ih
          | deep _ _ _=>exact ih
          | pool _=>exact ih
      | deep _ _ _ =>
        cases h':look (zaF p n) (zau c es) with
        | none=>exact ih
        | some f=>cases f with
          | box m=>rw[(hb c es).1 h'] at h; cases h
          | arr _ _ _=>exact ih
          | deep _ _ _=>exact ih
          | pool _=>exact ih
      | pool _ =>
        cases h':look (zaF p n) (zau c es) with
        | none=>exact ih
        | some f=>cases f with
          | box m=>rw[(hb c es).1 h'] at h; cases h
          | arr _ _ _=>exact ih
          | deep _ _ _=>exact ih
          | pool _=>exact ih
theorem Gam.zB5 (g:Gam C s X β tm w) {avs:List AV} {args:List Value} (hlen:avs.length=args.length) (h:∀ (j:Nat) av v,avs[j]? = some av→args[j]? = some v→zaR (cx C s β w) av v) :
    Gam C ⟨avs,s.ents⟩ NoX β args.toArray w:=by
  refine ⟨by simpa using hlen,fun t av _ hb=>?_,g.ents,g.uniq,g.fresh,g.kb,g.below,g.pin,g.np,g.bs,g.fx,g.tk⟩
  have hlt:t < args.length:=by rw[← hlen]; exact (List.getElem?_eq_some_iff.1 hb).1
  have:=h t av args[t] hb (List.getElem?_eq_getElem hlt)
  have he:args.toArray.getD t undef=args[t]:=by simp[Array.getD,hlt]
  rw[he]; exact this
theorem zmP:∀ {us:List Value},(us.flatMap zaE).Nodup→∀ {i j:Nat} {a b:Value} {k:Nat},us[i]? = some a→us[j]? = some b→k∈zaE a→k∈zaE b→i=j
  | [],_,i,j,a,b,k,h,_,_,_=>by simp at h
  | u :: us,hn,i,j,a,b,k,h1,h2,h3,h4=>by
    rw[List.flatMap_cons] at hn
    have hn':=List.nodup_append.1 hn
    cases i with
    | zero =>
      cases j with
      | zero=>rfl
      | succ j =>
        simp at h1 h2; subst h1
        exact absurd rfl (hn'.2.2 k h3 k (List.mem_flatMap.2 ⟨b,List.mem_of_getElem? h2,h4⟩))
    | succ i =>
      cases j with
      | zero =>
        simp at h1 h2; subst h2
        exact absurd rfl (hn'.2.2 k h4 k (List.mem_flatMap.2 ⟨a,List.mem_of_getElem? h1,h3⟩))
      | succ j=>exact congrArg (·+1) (zmP hn'.2.1 (i:=i) (j:=j) (by simpa using h1) (by simpa using h2) h3 h4)
theorem zDT {g:Sig} (h:g.inner=true) (f:Nat→Nat) (y:Tys g.zgF.ks):∃ k z,zos g.tup (zy2 f (g.zgF.enc y).env) = .v false [.d (.int k z)]:=by
  obtain ⟨args,ins,tup,res,outs⟩:=g
  unfold Sig.inner at h
  split at h
  · rename_i k h1 h2 h3 h4
    simp only at h3
    subst h3
    cases tup with
    | true=>cases h
    | false=>exact ⟨k,_,rfl⟩
  · cases h
theorem zp6 {g:Sig} (h:g.fine=true) (x:Tys g.tin.ks):look PN (g.tin.enc x).ents=none:=by
  obtain ⟨h1,_⟩:=zyC h
  obtain ⟨h1,_⟩:=zyC h1
  cases hl:look PN (g.tin.enc x).ents with
  | none=>rfl
  | some e =>
    obtain ⟨t,ht⟩:=zgn (l:=g.ins) hl
    rw[zaC.2 (za2 ht)] at h1; cases h1
theorem zrU {g:Sig} (h:g.inner=true):g.shares=false∧g.tup=false∧g.res.length=1:=by
  obtain ⟨args,ins,tup,res,outs⟩:=g
  unfold Sig.inner at h
  split at h
  · rename_i k h1 h2 h3 h4
    simp only at h1 h2 h3 h4 h
    subst h3; subst h4
    refine ⟨rfl,?_,rfl⟩
    cases tup with
    | true=>cases h
    | false=>rfl
  · cases h
theorem bare_go {x y:Cx}:∀ {r:List AV},zzV r=true→∀ (j:Nat) av v,r[j]? = some av→zaR x av v→zaR y av v
  | [],_,j,av,v,h,_=>by simp at h
  | a :: r,hb,j,av,v,h,hv=>by
    have key:(∃ c,a = .v false [.d c]∧c.zFF)∧zzV r=true:=by
      unfold zzV at hb
      split at hb
      · rename_i h; cases h
      · rename_i h; cases h; exact ⟨⟨_,rfl,trivial⟩,hb⟩
      · rename_i h; cases h; exact ⟨⟨_,rfl,trivial⟩,hb⟩
      · rename_i h; cases h; exact ⟨⟨_,rfl,trivial⟩,hb⟩
      · cases hb
    cases j with
    | zero =>
      simp at h; subst h
      obtain ⟨c,rfl,hc⟩:=key.1
      obtain ⟨a1,e1,e2,e3⟩:=hv
      cases e1
      exact ⟨_,rfl,ziO e2 hc.plain,e3⟩
    | succ j=>exact bare_go key.2 j av v (by simpa using h) hv
theorem sound_inner {c : Con} {f:FuncId} (hM:zaw P C.fix f c) (hcall:Callable P f) {args:Array Operand} {ts:Array TypeId} (ho:o.op = .call { callee := .value (.func f),args:=args,argTypes:=ts }) (g:Gam C s X β a.tmps w)
    (hx:∀ z∈args.toList,zaR (cx C s β w) (zaW s z) (a.eval z)) {n j off d:Nat} {ys:List Int} {r:List AV} (hin:zkn (opsL s args.toList)=some (n,j,off,ys,r)) (hinner:c.sig.inner=true)
    (hy:(innerCall s d c n j off ys r).Yields (av,s')) (hK:Goes C X o a av s' K):o.wp P a w K Q:=by
  have hops:opsL s args.toList = .v false [.dc n j off ys] :: r:=by
    unfold zkn at hin
    split at hin
    · rename_i h; cases hin; exact h
    · cases hin
  unfold innerCall at hy
  split at hy
  · rename_i t xs xin hl _ hbare hread hb
    obtain ⟨hfine,hports⟩:=Bool.and_eq_true_iff.1 hb
    obtain ⟨p,hp,hf⟩:=hy
    obtain ⟨hsh,htup,hrl⟩:=zrU hinner
    cases hrun:c.run xin with
    | none=>rw[hrun] at hp; cases hp
    | some y =>
    rw[hrun,Option.bind_some] at hp
    split at hp
    · rename_i zs hzs
      cases hxe:xs[j]? with
      | none=>rw[hxe] at hp; cases hp
      | some e =>
      rw[hxe,Option.bind_some] at hp
      split at hp
      · rename_i l hpatch
        split at hp
        · rename_i e' hel
          split at hp
          case h_2=>cases hp
          rename_i mz hmz
          cases hp
          cases hf
          -- the arguments
          have hlen:(opsL s args.toList).length=(args.toList.map a.eval).length:=by rw[zcZ,List.length_map]
          have hav:=zkK hx
          rw[hops] at hlen hav
          cases hargs0:args.toList.map a.eval with
          | nil=>rw[hargs0] at hlen; simp at hlen
          | cons v0 vr =>
          rw[hargs0] at hlen hav
          obtain ⟨a1,e1,hdc,_⟩:=hav 0 _ v0 rfl rfl
          cases e1
          obtain ⟨hoff,el,q1,hcases⟩:=hdc false t xs hl
          obtain ⟨q2,vs,hβ,hv0⟩:(t.cells el)[off]? = some (.sl .int ys)∧∃ vs,(cx C s β w).β n=some (.tuple vs)∧vs[1+j * t.size+off]? = some v0:=by
            rcases hcases with ⟨_,h1,h2⟩ | ⟨hr,_⟩
            · exact ⟨h1,h2⟩
            · subst hr
              have hoff:off < 1:=hoff
              have h0:off=0:=by omega
              subst h0
              simp[ST.cells,zbQ,patch] at hpatch
              subst hpatch
              cases hel
          rw[hxe] at q1; cases q1
          have hent:=g.ents n _ _ hl hβ
          have hown:OwnI (cx C s β w) ys v0:=znY hent hxe hoff q2 hv0
          obtain ⟨sv,us,e2,hus,hndT,hcd,hTop⟩:=hent
          cases e2
          have hj:j < xs.length:=(List.getElem?_eq_some_iff.1 hxe).1
          have hu0:us[j * t.size+off]? = some v0:=by
            have:1+j * t.size+off=(j * t.size+off)+1:=by omega
            rw[this] at hv0
            simpa using hv0
          have hmem:∀ b∈zaE v0,b∈zaq (.tuple (sv :: us).toArray):=fun b hb=>List.mem_flatMap.2 ⟨v0,by simp[List.mem_of_getElem? hu0],hb⟩
          have hfresh:∀ b∈zaE v0,¬ C.keep b∧b < w.heap.size:=fun b hb=>g.fresh b ⟨n,_,_,hl,rfl,hβ,hmem b hb⟩
          let C0:Bs:=⟨fun b=>b < w.heap.size∧b ∉ zaE v0,w,fun _=>True,fun k=>if k=63 then some v0 else none,C.fix,fun _=>True,none⟩
          let β0:Nat→Option Value:=fun k=>if k=63 then some v0 else none
          have look0:∀ k f,look k (zcy ys r).ents=some f→k=63∧f = .arr false .int ys:=fun k f h=>by
            simp only[zcy,zas] at h
            split at h
            · rename_i hk; cases h; exact ⟨hk,rfl⟩
            · cases h
          have zmw:∀ b,b∈zaq v0→b∈zaE v0:=fun b hb=>by
            have ts:∀ ad k c,zaq (.slice ad k c)=zaE (.slice ad k c):=fun ad k c=>by cases ad<;>cases c<;>rfl
            rcases hown with ⟨_,ad,rfl⟩ | ⟨_,_,_,_,rfl,_⟩<;>(rw[← ts]; exact hb)
          have ga:Gam C0 (zcy ys r) NoX β0 (v0 :: vr).toArray w:=by
            refine ⟨by simpa [zcy] using hlen,fun t1 b _ hb=>?_,fun k f z h1 h2=>?_,fun k m f1 f2 _ _ _ h1 h2 _ _ _ _ _ _=>?_,fun b hb=>?_,fun b hb=>hb.1,Kp.refl _ _,fun k z h1 _=>h1,fun k hk=>?_,fun k f h=>?_,fun b p hp=>⟨⟨trivial,g.kb b (g.fx b p hp).1.2,fun ht=>(hfresh b ht).1 (g.fx b p hp).1.2⟩,g.fxw b p hp⟩,fun π h=>by cases h⟩
            · have hlt:t1 < (v0 :: vr).length:=by rw[← hlen]; exact (List.getElem?_eq_some_iff.1 hb).1
              have hlt':t1 < vr.length+1:=by simpa using hlt
              have he:(v0 :: vr).toArray.getD t1 undef=(v0 :: vr)[t1]:=by simp[Array.getD,hlt']
              rw[he]
              cases t1 with
              | zero =>
                simp only[zcy,List.getElem?_cons_zero,Option.some.injEq] at hb
                subst hb
                refine ⟨_,rfl,fun _ _ _ _=>rfl,.inr ?_⟩
                rcases hown with ⟨_,ad,rfl⟩ | ⟨_,_,_,_,rfl,_⟩<;>rfl
              | succ t1 =>
                have hb':r[t1]? = some b:=by simpa [zcy] using hb
                exact bare_go hbare t1 b _ hb' (hav (t1+1) b _ (by simpa using hb') (List.getElem?_eq_getElem hlt))
            · obtain ⟨rfl,rfl⟩:=look0 k f h1
              cases h2
              exact hown.go fun _ _=>rfl
            · rw[(look0 k f1 h1).1,(look0 m f2 h2).1]
            · obtain ⟨k,f,z,h1,_,h3,h4⟩:=hb
              obtain ⟨rfl,rfl⟩:=look0 k f h1
              cases h3
              exact ⟨fun hk=>hk.2 (zmw b h4),(hfresh b (zmw b h4)).2⟩
            · by_cases h:k=63
              · subst h; exact ⟨rfl,by decide⟩
              · simp[C0,h] at hk
            · rw[(look0 k f h).1]; rfl
          have hwk:=Tm.zue hread
          unfold Oper.wp
          rw[zmE hcall ho]
          simp only[Oper.upon_enter]
          have hargs:(args.map a.eval)=(v0 :: vr).toArray:=Array.ext' (by rw[Array.toList_map,hargs0])
          rw[hargs]
          rw[← hsh] at hwk
          refine (hM _ w _ _ xin y (by rfl) hrun (zqP ga hwk (zp6 hfine xin))).mono ?_
          rintro ex w' ⟨vs2,β2,rfl,hkp,G2⟩
          obtain ⟨β3,G3,hav3⟩:=call_out (s:=zcy ys r) (avs:=(zcy ys r).env) (d:=d) ga ga hwk hfine hports (fun _=>hrl) hkp G2
          obtain ⟨k,z,hres⟩:=zDT hinner (zby (c.sig.tin.src (zcy ys r)) d) (c.out y)
          have hval:zaR (cx C0 (zc7 (zcy ys r) d c.sig (c.sig.tin.src (zcy ys r)) (c.out y)).2 β3 w') (zos c.sig.tup (zy2 (zby (c.sig.tin.src (zcy ys r)) d) (c.sig.zgF.enc (c.out y)).env)) (zkI c.sig.tup vs2):=hav3
          rw[hres] at hval
          have hp3:β3 63=some v0:=G3.pin 63 v0 rfl (by rw[hzs]; rfl)
          have hnew:OwnI (cx C0 (zc7 (zcy ys r) d c.sig (c.sig.tin.src (zcy ys r)) (c.out y)).2 β3 w') zs v0:=G3.ents 63 _ _ hzs hp3
          have hkp3:=G3.below
          have hblock:∀ b,b < w.heap.size→b ∉ zaE v0→w'.heap[b]? = w.heap[b]? := fun b h1 h2=>hkp3.block b ⟨h1,h2⟩
          -- the deep array behind the call
          obtain ⟨p1,p2⟩:=zfI _ _ _ _ hpatch
          obtain ⟨xt,g1,rfl⟩:=zij hel
          rw[zcY,zao] at p1
          have hlt:((zbQ (t.cells e)).take off).length=off:=by rw[List.length_take,zcY,zao]; omega
          have hnc:∀ (k:Nat) (cc:Cell),(t.cells (t.mk xt))[k]? = some cc→if k=off then cc = .sl .int zs else (t.cells e)[k]? = some cc:=fun k cc hk=>by
            rw[ze5] at hk
            obtain ⟨b,ck,z,h1,h2,rfl⟩:=zf3 g1 k cc hk
            rw[p2,zbS,hlt] at h1
            simp only[List.length_singleton] at h1
            split
            · rename_i hko
              subst hko
              rw[if_neg (by omega),if_pos (by omega),Nat.sub_self] at h1
              simp only[List.getElem?_cons_zero,Option.some.injEq] at h1
              subst h1
              exact (zfw (by cases ck<;>exact h2)).symm
            · rename_i hko
              have hb:(zbQ (t.cells e))[k]? = some b:=by
                by_cases h:k < off
                · rw[if_pos h,List.getElem?_take_of_lt h] at h1; exact h1
                · rw[if_neg h,if_neg (by omega),List.getElem?_drop,show off+1+(k - off - 1)=k from by omega] at h1; exact h1
              rw[zkS] at hb
              cases hc:(t.cells e)[k]? with
              | none=>rw[hc] at hb; cases hb
              | some c0 =>
                rw[hc] at hb
                simp only[Option.map_some,Option.some.injEq] at hb
                subst hb
                rw[zfw (show ck.get c0=some z by cases ck<;>exact h2)]
          have hnd2:∀ b∈zaE sv,b ∉ us.flatMap zaE:=by
            rw[List.flatMap_cons] at hndT
            have:=List.nodup_append.1 hndT
            exact fun b h1 h2=>this.2.2 b h1 b h2 rfl
          have hndu:(us.flatMap zaE).Nodup:=by
            rw[List.flatMap_cons] at hndT
            exact (List.nodup_append.1 hndT).2.1
          have hother:∀ (k:Nat) (b:Value),us[k]? = some b→k≠j * t.size+off→∀ bl∈zaE b,bl ∉ zaE v0:=fun k b hk hne bl h1 h2=>hne (zmP hndu hk hu0 h1 h2)
          have gp := g.zvs (w':=w') (xs':=xs.set j (t.mk xt)) (vs':=(sv :: us).toArray) (K:=[]) hl hβ (fun k hk=>by cases hk) (fun hk=>by cases hk) rfl (by simp) (fun _=>rfl)
            (fun b hlt hb=>hblock b hlt fun h=>hb (hmem b h)) hkp3.size (hkp3.mono fun b hb=>⟨g.kb b hb,fun h=>(hfresh b h).1 hb⟩) (fun b hb => .inl hb) (fun yc hyw=>by
              refine ⟨sv,us,rfl,by simpa using hus,hndT,hcd,?_⟩
              rcases hTop with ⟨h0,_⟩ | ⟨gb,cap,cur,T,k1,k2,k3,k4,k5,k6,k7⟩
              · subst h0; simp at hj
              · have hgb:gb∈zaE sv:=by rw[k1]; cases cap with | zero=>omega | succ k=>simp[zaE]
                have hgbn:gb ∉ zaE v0:=fun h=>hnd2 gb hgb (List.mem_flatMap.2 ⟨v0,List.mem_of_getElem? hu0,h⟩)
                have hgbs:gb < w.heap.size:=(g.fresh gb ⟨n,_,_,hl,rfl,hβ,List.mem_flatMap.2 ⟨sv,by simp,hgb⟩⟩).2
                refine .inr ⟨gb,cap,cur,T,by simpa using k1,k2,by simpa using k3,k4,by rw[hyw,hblock gb hgbs hgbn]; exact k5,k6,fun idx cc hc=>?_⟩
                have stay:∀ c0,(flat t xs)[idx]? = some c0→idx≠j * t.size+off→∃ u b,cur[idx]? = some u∧us[idx]? = some b∧zcB yc u c0 b:=fun c0 hc0 hne=>by
                  obtain ⟨u,b,m1,m2,m3⟩:=k7 idx c0 hc0
                  refine ⟨u,b,m1,m2,m3.go fun bl hbl=>?_⟩
                  rw[hyw]
                  refine hblock bl ?_ (hother idx b m2 hne bl hbl)
                  exact (g.fresh bl ⟨n,_,_,hl,rfl,hβ,List.mem_flatMap.2 ⟨b,by simp[List.mem_of_getElem? m2],hbl⟩⟩).2
                have hfl:=zaD t xs
                have hjl:(j+1) * t.size≤xs.length * t.size:=Nat.mul_le_mul_right _ (by omega)
                rw[Nat.add_mul,Nat.one_mul] at hjl
                rw[flat_set t _ xs j hj,zbS] at hc
                have hlt2:((flat t xs).take (j * t.size)).length=j * t.size:=by rw[List.length_take]; omega
                rw[hlt2,zao] at hc
                by_cases h:idx < j * t.size
                · rw[if_pos h,List.getElem?_take_of_lt h] at hc
                  exact stay cc hc (by omega)
                · rw [if_neg h] at hc
                  by_cases h':idx < j * t.size+t.size
                  · rw [if_pos h'] at hc
                    have hkk:=hnc _ cc hc
                    have hfg:=flat_get t xs j e (idx - j * t.size) hxe (by omega)
                    rw[show j * t.size+(idx - j * t.size)=idx from by omega] at hfg
                    by_cases ho2:idx - j * t.size=off
                    · rw[if_pos ho2] at hkk
                      subst hkk
                      have hidx:idx=j * t.size+off:=by omega
                      obtain ⟨u,b,m1,m2,m3⟩:=k7 idx _ (by rw[hfg,ho2]; exact q2)
                      rw[hidx,hu0] at m2; cases m2
                      have hvu:v0=u:=m3.1
                      subst hvu
                      exact ⟨v0,v0,m1,by rw[hidx]; exact hu0,rfl,hnew.go fun _ _=>by rw[hyw]; rfl⟩
                    · rw[if_neg ho2] at hkk
                      exact stay cc (by rw[hfg]; exact hkk) (by omega)
                  · rw[if_neg h',List.getElem?_drop] at hc
                    rw[show j * t.size+t.size+(idx - j * t.size - t.size)=idx from by omega] at hc
                    exact stay cc hc (by omega))
          have hmz':intOf (zos c.sig.tup (zy2 (zby (c.sig.tin.src (zcy ys r)) d) (c.sig.zgF.enc (c.out y)).env))=some mz:=hmz
          rw[hres] at hmz'
          obtain ⟨rfl,rfl⟩:k = .i64∧z=mz:=by
            cases k<;>simp[intOf] at hmz'
            exact ⟨rfl,hmz'⟩
          have hint:=zd9 hval
          have hfin:=hK (zkI c.sig.tup vs2) w' _ gp (by
            rw[hint]; exact zaS)
          exact hfin
        · cases hp
      · cases hp
    · cases hp
  · exact hy.elim
theorem zpW {g:Sig} (h:g.znB=true):g.shares=false∧g.tup=false∧g.res.length=1:=by
  obtain ⟨args,ins,tup,res,outs⟩:=g
  unfold Sig.znB at h
  split at h
  · rename_i k h1 h2 h3 h4
    simp only at h1 h2 h3 h4 h
    subst h3; subst h4
    refine ⟨rfl,?_,rfl⟩
    cases tup with
    | true=>cases h
    | false=>rfl
  · cases h
theorem zzD {g:Sig} (h:g.znB=true) (f:Nat→Nat) (y:Tys g.zgF.ks):∃ k z,zos g.tup (zy2 f (g.zgF.enc y).env) = .v false [.d (.int k z)]:=by
  obtain ⟨args,ins,tup,res,outs⟩:=g
  unfold Sig.znB at h
  split at h
  · rename_i k h1 h2 h3 h4
    simp only at h3
    subst h3
    cases tup with
    | true=>cases h
    | false=>exact ⟨k,_,rfl⟩
  · cases h
theorem sound_innerR {c:Con} {f:FuncId} (hM:zaw P C.fix f c) (hcall:Callable P f) {args:Array Operand} {ts:Array TypeId} (ho:o.op = .call { callee := .value (.func f),args:=args,argTypes:=ts }) (g:Gam C s X β a.tmps w)
    (hx:∀ z∈args.toList,zaR (cx C s β w) (zaW s z) (a.eval z)) {n j off d:Nat} {ys0:List Int} {r:List AV} (hin:zkn (opsL s args.toList)=some (n,j,off,ys0,r)) (hinner:c.sig.znB=true)
    (hy:(innerCallR s d c n j r).Yields (av,s')) (hK:Goes C X o a av s' K):o.wp P a w K Q:=by
  have hops:opsL s args.toList = .v false [.dc n j off ys0] :: r:=by
    unfold zkn at hin
    split at hin
    · rename_i h; cases hin; exact h
    · cases hin
  unfold innerCallR at hy
  split at hy
  case h_2=>exact hy.elim
  rename_i xs hl _ hbare
  obtain ⟨p,hp,hf⟩:=hy
  cases hxe:xs[j]? with
  | none=>rw[hxe] at hp; cases hp
  | some ys =>
  rw[hxe,Option.bind_some] at hp
  split at hp
  case h_2=>cases hp
  rename_i xin hread hb
  obtain ⟨hfine,hports⟩:=Bool.and_eq_true_iff.1 hb
  obtain ⟨hsh,htup,hrl⟩:=zpW hinner
  cases hrun:c.run xin with
  | none=>rw[hrun] at hp; cases hp
  | some y =>
  rw[hrun,Option.bind_some] at hp
  split at hp
  case h_2=>cases hp
  rename_i zs hzs
  split at hp
  case h_2=>cases hp
  rename_i mz hmz
  cases hp
  cases hf
  -- the arguments
  have hlen:(opsL s args.toList).length=(args.toList.map a.eval).length:=by rw[zcZ,List.length_map]
  have hav:=zkK hx
  rw[hops] at hlen hav
  cases hargs0:args.toList.map a.eval with
  | nil=>rw[hargs0] at hlen; simp at hlen
  | cons v0 vr =>
  rw[hargs0] at hlen hav
  obtain ⟨a1,e1,hdc,_⟩:=hav 0 _ v0 rfl rfl
  cases e1
  obtain ⟨hoff,el,q1,⟨hne,_⟩ | ⟨_,vs,ws,hβ,hvs,hws⟩⟩:=hdc false .rats xs hl
  case inl=>exact absurd rfl hne
  have hoff:off < 1:=hoff
  have h0:off=0:=by omega
  subst h0
  have hvs1:vs[1+j]? = some (.tuple ws):=by
    have hsz:ST.size .rats=1:=rfl
    rw[hsz,Nat.mul_one,Nat.add_zero] at hvs; exact hvs
  have hent:=g.ents n _ _ hl hβ
  obtain ⟨u0,us0,rfl,hl0,hT0⟩:=zBV hent hxe hvs1
  have hv00:u0=v0:=by simpa using hws
  subst hv00
  obtain ⟨sv,us,e2,hus,hndT,hcd,hTop⟩:=hent
  cases e2
  have hj:j < xs.length:=(List.getElem?_eq_some_iff.1 hxe).1
  have hu0:us[j]? = some (.tuple (u0 :: us0).toArray):=by
    rw[Nat.add_comm] at hvs1
    simpa using hvs1
  have hnd2:∀ b∈zaE sv,b ∉ us.flatMap zaE:=by
    rw[List.flatMap_cons] at hndT
    have:=List.nodup_append.1 hndT
    exact fun b h1 h2=>this.2.2 b h1 b h2 rfl
  have hndu:(us.flatMap zaE).Nodup:=by
    rw[List.flatMap_cons] at hndT
    exact (List.nodup_append.1 hndT).2.1
  have hnd0:(zaE (.tuple (u0 :: us0).toArray)).Nodup:=zoL hndu (List.mem_of_getElem? hu0)
  have htt:=hT0.zaq hl0
  have hmem:∀ b∈zaE (.tuple (u0 :: us0).toArray),b∈zaq (.tuple (sv :: us).toArray):=fun b hb=>List.mem_flatMap.2 ⟨_,by simp[List.mem_of_getElem? hu0],hb⟩
  have hfresh:∀ b∈zaE (.tuple (u0 :: us0).toArray),¬ C.keep b∧b < w.heap.size:=fun b hb=>g.fresh b ⟨n,_,_,hl,rfl,hβ,hmem b hb⟩
  let C0:Bs:=⟨fun b=>b < w.heap.size∧b ∉ zaE (.tuple (u0 :: us0).toArray),w,fun _=>True,fun k=>if k=63 then some (.tuple (u0 :: us0).toArray) else none,C.fix,fun _=>True,none⟩
  let β0:Nat→Option Value:=fun k=>if k=63 then some (.tuple (u0 :: us0).toArray) else none
  have look0:∀ k f,look k (zbl ys r).ents=some f→k=63∧f = .deep false .rat ys:=fun k f h=>by
    simp only[zbl,zas] at h
    split at h
    · rename_i hk; cases h; exact ⟨hk,rfl⟩
    · cases h
  have zmw:∀ b,b∈zaq (.tuple (u0 :: us0).toArray)→b∈zaE (.tuple (u0 :: us0).toArray):=fun b hb=>by rw[← htt]; exact hb
  have ga:Gam C0 (zbl ys r) NoX β0 (u0 :: vr).toArray w:=by
    refine ⟨by simpa [zbl] using hlen,fun t1 b _ hb=>?_,fun k f z h1 h2=>?_,fun k m f1 f2 _ _ _ h1 h2 _ _ _ _ _ _=>?_,fun b hb=>?_,fun b hb=>hb.1,Kp.refl _ _,fun k z h1 _=>h1,fun k hk=>?_,fun k f h=>?_,fun b p hp=>⟨⟨trivial,g.kb b (g.fx b p hp).1.2,fun ht=>(hfresh b ht).1 (g.fx b p hp).1.2⟩,g.fxw b p hp⟩,fun π h=>by cases h⟩
    · have hlt:t1 < (u0 :: vr).length:=by rw[← hlen]; exact (List.getElem?_eq_some_iff.1 hb).1
      have hlt':t1 < vr.length+1:=by simpa using hlt
      have he:(u0 :: vr).toArray.getD t1 undef=(u0 :: vr)[t1]:=by simp[Array.getD,hlt']
      rw[he]
      cases t1 with
      | zero =>
        simp only[zbl,List.getElem?_cons_zero,Option.some.injEq] at hb
        subst hb
        exact ⟨_,rfl,fun _=>⟨_,rfl,by simp⟩,.inr hT0.one⟩
      | succ t1 =>
        have hb':r[t1]? = some b:=by simpa [zbl] using hb
        exact bare_go hbare t1 b _ hb' (hav (t1+1) b _ (by simpa using hb') (List.getElem?_eq_getElem hlt))
    · obtain ⟨rfl,rfl⟩:=look0 k f h1
      cases h2
      exact (DeepTop0.go (y:=cx C0 (zbl ys r) β0 w) hT0 fun _ _=>rfl).ok hl0 hnd0
    · rw[(look0 k f1 h1).1,(look0 m f2 h2).1]
    · obtain ⟨k,f,z,h1,_,h3,h4⟩:=hb
      obtain ⟨rfl,rfl⟩:=look0 k f h1
      cases h3
      exact ⟨fun hk=>hk.2 (zmw b h4),(hfresh b (zmw b h4)).2⟩
    · by_cases h:k=63
      · subst h; exact ⟨rfl,by decide⟩
      · simp[C0,h] at hk
    · rw[(look0 k f h).1]; rfl
  have hwk:=Tm.zue hread
  unfold Oper.wp
  rw[zmE hcall ho]
  simp only[Oper.upon_enter]
  have hargs:(args.map a.eval)=(u0 :: vr).toArray:=Array.ext' (by rw[Array.toList_map,hargs0])
  rw[hargs]
  rw[← hsh] at hwk
  refine (hM _ w _ _ xin y (by rfl) hrun (zqP ga hwk (zp6 hfine xin))).mono ?_
  rintro ex w' ⟨vs2,β2,rfl,hkp,G2⟩
  obtain ⟨β3,G3,hav3⟩:=call_out (s:=zbl ys r) (avs:=(zbl ys r).env) (d:=d) ga ga hwk hfine hports (fun _=>hrl) hkp G2
  obtain ⟨k,z,hres⟩:=zzD hinner (zby (c.sig.tin.src (zbl ys r)) d) (c.out y)
  have hval:zaR (cx C0 (zc7 (zbl ys r) d c.sig (c.sig.tin.src (zbl ys r)) (c.out y)).2 β3 w') (zos c.sig.tup (zy2 (zby (c.sig.tin.src (zbl ys r)) d) (c.sig.zgF.enc (c.out y)).env)) (zkI c.sig.tup vs2):=hav3
  rw[hres] at hval
  have hp3:β3 63=some (.tuple (u0 :: us0).toArray):=G3.pin 63 _ rfl (by rw[hzs]; rfl)
  obtain ⟨sv3,us3,e3,hl3,_,_,hT3⟩:=G3.ents 63 _ _ hzs hp3
  cases e3
  have hT3:=hT3.zero
  have hkp3:=G3.below
  have hblock:∀ b,b < w.heap.size→b ∉ zaE (.tuple (u0 :: us0).toArray)→w'.heap[b]? = w.heap[b]? := fun b h1 h2=>hkp3.block b ⟨h1,h2⟩
  have hother:∀ (k:Nat) (b:Value),us[k]? = some b→k≠j→∀ bl∈zaE b,bl ∉ zaE (.tuple (u0 :: us0).toArray):=fun k b hk hne bl h1 h2=>hne (zmP hndu hk hu0 h1 h2)
  have key := fun (zq:ST.rats.El) (hTq:DeepTop0 (cx C0 (zc7 (zbl ys r) d c.sig (c.sig.tin.src (zbl ys r)) (c.out y)).2 β3 w') zq u0 us0) (hlq:us0.length=List.length zq * ST.size .rat)=>g.zvs (w':=w') (xs':=xs.set j zq) (vs':=(sv :: us).toArray) (K:=[]) hl hβ (fun k hk=>by cases hk) (fun hk=>by cases hk) rfl (by simp) (fun _=>rfl)
    (fun b hlt hb=>hblock b hlt fun h=>hb (hmem b h)) hkp3.size (hkp3.mono fun b hb=>⟨g.kb b hb,fun h=>(hfresh b h).1 hb⟩) (fun b hb => .inl hb) (fun yc hyw=>by
      refine ⟨sv,us,rfl,by simpa using hus,hndT,hcd,?_⟩
      rcases hTop with ⟨h0,_⟩ | ⟨gb,cap,cur,T,k1,k2,k3,k4,k5,k6,k7⟩
      · subst h0; simp at hj
      · have hgb:gb∈zaE sv:=by rw[k1]; cases cap with | zero=>omega | succ k=>simp[zaE]
        have hgbn:gb ∉ zaE (.tuple (u0 :: us0).toArray):=fun h=>hnd2 gb hgb (List.mem_flatMap.2 ⟨_,List.mem_of_getElem? hu0,h⟩)
        have hgbs:gb < w.heap.size:=(g.fresh gb ⟨n,_,_,hl,rfl,hβ,List.mem_flatMap.2 ⟨sv,by simp,hgb⟩⟩).2
        refine .inr ⟨gb,cap,cur,T,by simpa using k1,k2,by simpa using k3,k4,by rw[hyw,hblock gb hgbs hgbn]; exact k5,k6,fun idx cc hc=>?_⟩
        rw[zgR,List.getElem?_set] at hc
        by_cases hij:j=idx
        · subst hij
          rw[if_pos rfl,if_pos hj] at hc
          have hc:some (Cell.sl .rat zq)=some cc:=hc
          cases hc
          obtain ⟨u,b,m1,m2,us4,e4,_⟩:=k7 j _ (by rw[zgR,hxe]; rfl)
          rw[hu0] at m2
          cases m2
          cases e4
          exact ⟨u0,_,m1,hu0,us0,rfl,hlq,hTq.go fun _ _=>by rw[hyw]; rfl⟩
        · rw[if_neg hij,← zgR] at hc
          obtain ⟨u,b,m1,m2,m3⟩:=k7 idx cc hc
          refine ⟨u,b,m1,m2,m3.go fun bl hbl=>?_⟩
          rw[hyw]
          refine hblock bl ?_ (hother idx b m2 (fun e=>hij e.symm) bl hbl)
          exact (g.fresh bl ⟨n,_,_,hl,rfl,hβ,List.mem_flatMap.2 ⟨b,by simp[List.mem_of_getElem? m2],hbl⟩⟩).2)
  have gp:=key zs hT3 hl3
  have hmz':intOf (zos c.sig.tup (zy2 (zby (c.sig.tin.src (zbl ys r)) d) (c.sig.zgF.enc (c.out y)).env))=some mz:=hmz
  rw[hres] at hmz'
  obtain ⟨rfl,rfl⟩:k = .i64∧z=mz:=by
    cases k<;>simp[intOf] at hmz'
    exact ⟨rfl,hmz'⟩
  have hint:=zd9 hval
  exact hK (zkI c.sig.tup vs2) w' _ gp (by
    rw[hint]; exact zaS)
theorem call_core {c:Con} {f:FuncId} (hM:zaw P C.fix f c) {avs:List AV} {vals:List Value} (hrun0:(execOp a.eval o).run P w = .ok (.enter f vals.toArray) w) (g:Gam C s X β a.tmps w)
    (hlen:avs.length=vals.length) (hget:∀ (j:Nat) av v,avs[j]? = some av→vals[j]? = some v→zaR (cx C s β w) av v)
    (hy:(zmo s (o.dst.getD 0) c avs).Yields (av,s')) (hK:Goes C X o a av s' K):o.wp P a w K Q:=by
  unfold zmo at hy
  split at hy
  · rename_i xin hxin hb
    obtain ⟨hb1,hnames⟩:=Bool.and_eq_true_iff.1 hb
    obtain ⟨htup,hfine⟩:=Bool.and_eq_true_iff.1 hb1
    obtain ⟨y,hrun,hf⟩:=hy
    obtain ⟨rfl,rfl⟩:=Prod.mk.inj hf
    unfold Oper.wp
    rw[hrun0]
    simp only[Oper.upon_enter]
    have key:∃ l:List A1,zaJ s c.sig avs=zau l s.ents ∧
        zon c.sig.shares ⟨avs,zaJ s c.sig avs⟩ (zou c.sig.tin.slots avs++zkr (zaJ s c.sig avs) (c.sig.tin.src ⟨avs,zaJ s c.sig avs⟩) c.sig.tin.ents):=by
      unfold zaJ
      cases hsh:c.sig.shares with
      | false=>exact ⟨[],rfl,zGT⟩
      | true =>
        refine ⟨_,rfl,fun _ b hbm m hi=>?_⟩
        have hsrc:∀ l,c.sig.tin.src ⟨avs,zau l s.ents⟩=c.sig.tin.src ⟨avs,s.ents⟩:=fun l=>by
          simp only[Tm.src]; rw[pairsE_frz]
        have hmem:b∈zvt c.sig.args avs++zkr s.ents (c.sig.tin.src ⟨avs,s.ents⟩) c.sig.ins:=by
          simp only[] at hbm
          rw[hsrc,dataE_frz,show c.sig.tin.slots=c.sig.args.map some from rfl,zlm] at hbm
          exact hbm
        refine ⟨fun t xs hl=>?_,fun t xs hl=>?_⟩
        · have:=zvl _ s.ents hmem hi hl
          cases this
        · have:=zp3 _ s.ents hmem hi hl
          cases this
    obtain ⟨l,hbef,hfz⟩:=key
    generalize hes:zaJ s c.sig avs=es at *
    subst hbef
    have g1:=g.zau l
    have ga:Gam C ⟨avs,zau l s.ents⟩ NoX β vals.toArray w:=g1.zB5 hlen fun j av v h1 h2=>by
      have h3:=hget j av v h1 h2
      cases av with
      | v gg ll=>exact VOk.conv (fun b _ v hb=>zeW l s hb) h3
      | tup ps=>obtain ⟨vs,e1,e2⟩:=h3; exact ⟨vs,e1,e2.conv fun p _ b _ v hb=>zeW l s hb⟩
    have hwk:=Tm.zwq hxin (fun h=>by unfold Sig.ex; rw[h]; exact List.mem_cons_self ..) hfz
    refine (hM _ w _ _ xin y (by rfl) hrun (zqP ga hwk (zp6 hfine xin))).mono ?_
    rintro e w' ⟨vs,β2,rfl,hkp,G2⟩
    obtain ⟨β3,G3,hav⟩:=call_out (s:=⟨s.env,zau l s.ents⟩) (d:=o.dst.getD 0) g1 ga hwk hfine hnames (fun h=>by
      unfold Sig.zNx at htup
      rw[h,Bool.false_or] at htup
      exact Nat.eq_of_beq_eq_true htup) hkp G2
    obtain ⟨β4,G4,hav4⟩:=zFO G3 hav
    exact hK _ w' β4 G4 hav4
  · exact hy.elim
theorem sound_call (hC:zaj P C.fix cons) {f:FuncId} {args:Array Operand} {ts:Array TypeId} (ho:o.op = .call { callee := .value (.func f),args:=args,argTypes:=ts }) (g:Gam C s X β a.tmps w)
    (hx:∀ z∈args.toList,zaR (cx C s β w) (zaW s z) (a.eval z)) (hy:(evalOp lay cons o s).Yields (av,s')) (hK:Goes C X o a av s' K):o.wp P a w K Q:=by
  simp only[evalOp,ho] at hy
  split at hy
  · rename_i c hc
    obtain ⟨hM,hcall⟩:=hC.of hc
    split at hy
    · rename_i hin hinner
      exact sound_inner hM hcall ho g hx hin hinner hy hK
    · rename_i hin hinner
      split at hy
      · rename_i hir
        exact sound_innerR hM hcall ho g hx hin hir hy hK
      · exact call_core hM (by
          rw[zmE hcall ho]
          have hargs:(args.map a.eval)=(args.toList.map a.eval).toArray:=Array.ext' (by rw[Array.toList_map])
          rw[hargs]) g (by rw[zcZ,List.length_map]) (zkK hx) hy hK
    · exact call_core hM (by
      rw[zmE hcall ho]
      have hargs:(args.map a.eval)=(args.toList.map a.eval).toArray:=Array.ext' (by rw[Array.toList_map])
      rw[hargs]) g (by rw[zcZ,List.length_map]) (zkK hx) hy hK
  · exact hy.elim
theorem zBJ {f:FuncId} (hf:Callable P f) {t:Nat} {vs:Array Value} (hv:a.eval (.tmp t) = .func (.func f) #[] vs) {args:Array Operand} {ts:Array TypeId} (ho:o.op = .call { callee := .value (.tmp t),args:=args,argTypes:=ts }) :
    (execOp a.eval o).run P w = .ok (.enter f (args.map a.eval++vs)) w:=by
  obtain ⟨fn,h1,h2,h3⟩:=hf
  simp only[beq_eq_false_iff_ne,ne_eq] at h2
  have h4:fn.body≠none:=by intro e; rw[e] at h3; cases h3
  simp[execOp,ho,resolve,hv,Deferred.ofValue,invoke,callFunc,h1,h2,h4]
theorem zmi:∀ l:List (List Cell),(zj4 l).length=l.length
  | []=>rfl
  | _ :: r=>by simp[zj4,zmi r]
theorem zsJ:∀ (l:List (List Cell)) (j:Nat) (b:AV),(zj4 l)[j]? = some b→∃ cs,l[j]? = some cs∧b = .v false [.sp cs 0]
  | [],j,b,h=>by simp[zj4] at h
  | cs :: r,0,b,h=>by simp[zj4] at h; subst h; exact ⟨cs,rfl,rfl⟩
  | cs :: r,j+1,b,h=>by simpa using zsJ r j b (by simpa [zj4] using h)
theorem zt0 (hC:zaj P C.fix cons) {t:Nat} {args:Array Operand} {ts:Array TypeId} (ho:o.op = .call { callee := .value (.tmp t),args:=args,argTypes:=ts }) (g:Gam C s X β a.tmps w)
    (hf:zaR (cx C s β w) (zaW s (.tmp t)) (a.eval (.tmp t))) (hx:∀ z∈args.toList,zaR (cx C s β w) (zaW s z) (a.eval z)) (hy:(evalOp lay cons o s).Yields (av,s')) (hK:Goes C X o a av s' K):o.wp P a w K Q:=by
  simp only[evalOp,ho] at hy
  split at hy
  · rename_i f css hfn
    split at hy
    · rename_i c hc
      obtain ⟨hM,hcall⟩:=hC.of hc
      have hf':zaR (cx C s β w) (.v false [.fn f css]) (a.eval (.tmp t)):=by
        have:=zcn hfn
        rw[← this]; exact hf
      obtain ⟨a1,e1,h1,_⟩:=hf'
      cases e1
      obtain ⟨vs,hv,hsz,hcap⟩:=h1
      refine call_core hM (vals:=args.toList.map a.eval++vs.toList) (by
        rw[zBJ hcall hv ho]
        have hargs:(args.map a.eval++vs)=(args.toList.map a.eval++vs.toList).toArray:=Array.ext' (by simp)
        rw[hargs]) g (by simp[zcZ,zmi,hsz]) (fun j b v h1 h2=>?_) hy hK
      by_cases hj:j < args.toList.length
      · rw[List.getElem?_append_left (by rw[zcZ]; exact hj)] at h1
        rw[List.getElem?_append_left (by rw[List.length_map]; exact hj)] at h2
        exact zkK hx j b v h1 h2
      · rw[List.getElem?_append_right (by rw[zcZ]; omega),zcZ] at h1
        rw[List.getElem?_append_right (by rw[List.length_map]; omega),List.length_map] at h2
        obtain ⟨cs,q1,rfl⟩:=zsJ _ _ _ h1
        obtain ⟨q,o,q2,q3⟩:=hcap _ _ q1
        rw[Array.getElem?_toList,q2] at h2
        cases h2
        exact zbT (a := .sp cs 0) ⟨q,o,rfl,q3⟩ rfl
    · exact hy.elim
  · exact hy.elim
end
end Go.Di
open Go.RowKit (Below)
namespace Go.Di
section
variable {P:Program} {C:Bs} {w w':World} {s s':St} {X:Nat→Prop} {β β':Nat→Option Value} {a:Act} {o:Oper} {tm:Array Value}
  {K:Act→World→Prop} {Q:Exit→Act→World→Prop} {lay:List (TypeId × TI)} {cons:List (FuncId × Con)} {av:AV}
theorem zih (hL:zcC P lay) (hC:zaj P C.fix cons) (hwf:zFC o=true) (g:Gam C s X β a.tmps w) (hx:∀ t,Operand.tmp t∈o.op.operands→¬ X t) (hy:(evalOp lay cons o s).Yields (av,s')) (hK:Goes C X o a av s' K):o.wp P a w K Q:=by
  have op:∀ x,x∈o.op.operands→zaR (cx C s β w) (zaW s x) (a.eval x):=fun x hm=>zlc g fun t ht=>hx t (by rw[← ht]; exact hm)
  cases ho:o.op with
  | move x=>exact zoz (.inl ho) g (op x (by rw[ho]; simp[Op.operands])) hy hK
  | assign x=>exact zoz (.inr ho) g (op x (by rw[ho]; simp[Op.operands])) hy hK
  | pick c x y=>exact zyX ho g (op c (by rw[ho]; simp[Op.operands])) (op x (by rw[ho]; simp[Op.operands])) (op y (by rw[ho]; simp[Op.operands])) hy hK
  | alloc t=>exact zt3 hL ho g hy hK
  | box t x=>exact zBf hL ho g (op x (by rw[ho]; simp[Op.operands])) hy hK
  | build t ps=>exact zt1 hL ho g (fun j z hz=>op z (by rw[ho]; simp[Op.operands]; exact ⟨j,by simpa using hz⟩)) hy hK
  | buildSlice t len ps =>
    have h1:len≤1000∧(len=0→ps.toList=[]):=by
      simp only[zFC,ho] at hwf
      cases len with
      | zero=>exact ⟨by omega,fun _=>by simpa using hwf⟩
      | succ n=>exact ⟨by simpa using hwf,fun h=>by cases h⟩
    exact sound_buildSlice hL h1.1 ho g (fun j z hz=>op z (by rw[ho]; simp[Op.operands]; exact ⟨j,by simpa using hz⟩)) h1.2 hy hK
  | load t x=>exact sound_load hL ho g (op x (by rw[ho]; simp[Op.operands])) hy hK
  | store t x y=>exact sound_store hL ho (by simp only[zFC,ho] at hwf; simpa using hwf) g (op x (by rw[ho]; simp[Op.operands])) (op y (by rw[ho]; simp[Op.operands])) hy hK
  | binOp b t x y u=>exact zt2 hL ho g (op x (by rw[ho]; simp[Op.operands])) (op y (by rw[ho]; simp[Op.operands])) hy hK
  | unOp u t x=>exact zyW hL ho g (op x (by rw[ho]; simp[Op.operands])) hy hK
  | convert u t x=>exact zpD hL ho g (op x (by rw[ho]; simp[Op.operands])) hy hK
  | makeSlice t x y=>exact zyY hL ho g (op x (by rw[ho]; simp[Op.operands])) (op y (by rw[ho]; simp[Op.operands])) hy hK
  | slice t x lo hi mx =>
    cases mx with
    | some m=>simp only[evalOp,ho] at hy; exact hy.elim
    | none =>
      exact sound_slice hL ho g (op x (by rw[ho]; simp[Op.operands])) (fun z hz=>op z (by rw[ho,hz]; simp[Op.operands])) (fun z hz=>op z (by rw[ho,hz]; simp[Op.operands])) hy hK
  | fieldAddr t x f=>exact zm6 hL ho g (op x (by rw[ho]; simp[Op.operands])) hy hK
  | field t x f=>exact ztZ hL ho g (op x (by rw[ho]; simp[Op.operands])) hy hK
  | indexAddr t x y=>exact sound_indexAddr hL ho g (op x (by rw[ho]; simp[Op.operands])) (op y (by rw[ho]; simp[Op.operands])) hy hK
  | index t x y=>exact ztY hL ho g (op x (by rw[ho]; simp[Op.operands])) (op y (by rw[ho]; simp[Op.operands])) hy hK
  | extract x f=>exact sound_extract ho g (op x (by rw[ho]; simp[Op.operands])) hy hK
  | nilCheck x=>exact zBd ho g (op x (by rw[ho]; simp[Op.operands])) hy hK
  | makeFunc fn first caps =>
    cases fn with
    | func f=>exact zoq ho g hx hy hK
    | _=>simp only[evalOp,ho] at hy; exact hy.elim
  | call c =>
    obtain ⟨callee,args,ts⟩:=c
    cases callee with
    | invoke r m=>simp only[evalOp,ho] at hy; exact hy.elim
    | value f =>
      cases f with
      | func f=>exact sound_call hC ho g (fun z hz=>op z (by rw[ho]; simp[Op.operands,Call.operands]; exact .inr (by simpa using hz))) hy hK
      | tmp t=>exact zt0 hC ho g (op (.tmp t) (by rw[ho]; simp[Op.operands,Call.operands])) (fun z hz=>op z (by rw[ho]; simp[Op.operands,Call.operands]; exact .inr (by simpa using hz))) hy hK
      | const v=>simp only[evalOp,ho] at hy; exact hy.elim
      | global v=>simp only[evalOp,ho] at hy; exact hy.elim
    | builtin b =>
      obtain ⟨l⟩:=args
      obtain ⟨m⟩:=ts
      cases b<;>try (simp only[evalOp,ho] at hy; exact hy.elim)
      case max =>
        match l with
        | [x,y]=>exact zBe ho g (op x (by rw[ho]; simp[Op.operands,Call.operands])) (op y (by rw[ho]; simp[Op.operands,Call.operands])) hy hK
        | []=>simp only[evalOp,ho] at hy; exact hy.elim
        | [_]=>simp only[evalOp,ho] at hy; exact hy.elim
        | _ :: _ :: _ :: _=>simp only[evalOp,ho] at hy; exact hy.elim
      case len =>
        match l,m with
        | [x],[t]=>exact sound_len hL ho g (op x (by rw[ho]; simp[Op.operands,Call.operands])) hy hK
        | [],_=>simp only[evalOp,ho] at hy; exact hy.elim
        | [_],[]=>simp only[evalOp,ho] at hy; exact hy.elim
        | [_],_ :: _ :: _=>simp only[evalOp,ho] at hy; exact hy.elim
        | _ :: _ :: _,_=>simp only[evalOp,ho] at hy; exact hy.elim
      case append =>
        match l,m with
        | [x,y],[t,u]=>exact sound_append hL ho g (op x (by rw[ho]; simp[Op.operands,Call.operands])) (op y (by rw[ho]; simp[Op.operands,Call.operands])) hy hK
        | [],_=>simp only[evalOp,ho] at hy; exact hy.elim
        | [_],_=>simp only[evalOp,ho] at hy; exact hy.elim
        | [_,_],[]=>simp only[evalOp,ho] at hy; exact hy.elim
        | [_,_],[_]=>simp only[evalOp,ho] at hy; exact hy.elim
        | [_,_],_ :: _ :: _ :: _=>simp only[evalOp,ho] at hy; exact hy.elim
        | _ :: _ :: _ :: _,_=>simp only[evalOp,ho] at hy; exact hy.elim
  | _=>simp only[evalOp,ho] at hy; exact hy.elim
end
theorem zwg {tm:Array Value} {t:Nat} {v:Value} (h:tm.getD t undef=v):tm.setIfInBounds t v=tm:=by
  apply Array.ext (by simp)
  intro j h1 h2
  rw[Array.getElem_setIfInBounds h2]
  split
  · rename_i e; subst e
    simp[Array.getD,h2] at h; exact h.symm
  · rfl
section
variable {P:Program} {C:Bs} {w w':World} {s s':St} {X:Nat→Prop} {β':Nat→Option Value} {a:Act} {o:Oper} {tm:Array Value} {β:Type} {bt:Nat→Option Value}
  {K:Act→World→Prop} {Q:Exit→Act→World→Prop} {E:Env} {k:St→Option β} {r:β}
def zOT (C:Bs) (k:St→Option β) (r:β) (K:Act→World→Prop):Prop:=∀ s bt a w,Gam C s NoX bt a.tmps w→a.defers=[]→k s=some r→K a w
theorem zk9 (hL:zcC P E.lay) (hC:zaj P C.fix E.cons) (g:Gam C s NoX bt a.tmps w) (hd:a.defers=[]) (h:zyQ E o s k=some r) (hK:zOT C k r K):o.wp P a w K Q:=by
  unfold zyQ at h
  split at h
  · rename_i hwf
    obtain ⟨⟨av,s'⟩,hy,hk⟩:=zo9 h
    refine zih hL hC hwf g (fun t _ hx=>hx) hy fun v w' bt' g' hav=>?_
    cases hdst:o.dst with
    | none=>rw[hdst] at hk; exact hK _ bt' _ w' g' hd hk
    | some t=>rw[hdst] at hk; exact hK _ bt' { a with tmps:=a.tmps.setIfInBounds t v } w' (g'.zpI hav) hd hk
  · cases h
theorem zj5 (g:Gam C s NoX bt a.tmps w) {t:Nat} {kb:Bool→St→Option β} (h:zkw s t kb=some r) :
    ∃ c s1,a.tmps[t]? = some (.bool c)∧Gam C s1 NoX bt a.tmps w∧kb c s1=some r:=by
  unfold zkw at h
  split at h
  · rename_i c hc
    have hv:zaR (cx C s bt w) (.v false [.d (.bool c)]) (a.tmps.getD t undef):=by
      have:=zlc g (x := .tmp t) (fun _ _ hx=>hx)
      simp only[zaW,Act.eval] at this
      rw[hc] at this; exact this
    have hb:=zf2 hv
    have hlt:t < a.tmps.size:=by
      rcases Nat.lt_or_ge t a.tmps.size with h' | h'
      · exact h'
      · simp[Array.getD,Nat.not_lt.2 h',undef] at hb
    have hget:a.tmps[t]? = some (.bool c):=by
      rw[Array.getElem?_eq_getElem hlt]; simp[Array.getD,hlt] at hb; rw[hb]
    have gset:∀ b,c=b→Gam C (s.set t (.one (.d (.bool b)))) NoX bt a.tmps w:=by
      intro b hcb
      have:=g.zpI (t:=t) (a := .one (.d (.bool b))) (v := .bool b) zbM
      rwa [zwg (by rw[hb,hcb])] at this
    cases c with
    | true=>exact ⟨true,_,hget,gset true rfl,h⟩
    | false=>exact ⟨false,_,hget,gset false rfl,h⟩
  · cases h
theorem runOp_sound (hL:zcC P E.lay) (hC:zaj P C.fix E.cons) {ops:Array Oper} (g:Gam C s NoX bt a.tmps w) (hd:a.defers=[]) (h:runOp E ops.toList o s k=some r) (hK:zOT C k r K) :
    if Region.wanted o (yielded ops a.tmps) then o.wp P a w K Q else K (a.put o.dst undef) w:=by
  unfold runOp at h
  split at h
  · rename_i hg
    rw[if_pos (by simp[Region.wanted,hg])]
    exact zk9 hL hC g hd h hK
  · rename_i j p hg
    split at h
    · rename_i o2 t _ _ _ _ _ hj
      have hj':=hj
      rw[Array.getElem?_toList] at hj'
      have skip:∀ s1,Gam C s1 NoX bt a.tmps w→zyZ o s1 k=some r→K (a.put o.dst undef) w:=by
        intro s1 g1 hk
        unfold zyZ at hk
        cases hdst:o.dst with
        | none=>rw[hdst] at hk; exact hK _ bt _ w g1 hd hk
        | some u=>rw[hdst] at hk; exact hK _ bt { a with tmps:=a.tmps.setIfInBounds u undef } w (g1.zpI zMU) hd hk
      split at h
      · rename_i hun
        have hv:=zlc g (x := .tmp t) (fun _ _ hx=>hx)
        simp only[zaW,Act.eval] at hv
        rw[hun] at hv
        have hv:=zyx hv
        have hy:yielded ops a.tmps j=none:=by
          unfold yielded
          rw[hj']
          simp only[Option.bind_some]
          cases hg':a.tmps[t]? with
          | none=>rfl
          | some v =>
            have:v=undef:=by
              have hlt:=(Array.getElem?_eq_some_iff.1 hg').1
              have:=(Array.getElem?_eq_some_iff.1 hg').2
              simp[Array.getD,hlt] at hv
              rw[← this,hv]
            subst this; rfl
        have hw:Region.wanted o (yielded ops a.tmps)=false:=by
          simp only[Region.wanted,hg,hy]; rfl
        rw[hw]
        exact skip s g h
      · obtain ⟨c,s1,hget,g1,hk⟩:=zj5 g h
        have hy:yielded ops a.tmps j=some c:=by
          simp[yielded,hj',hget]
        have hw:Region.wanted o (yielded ops a.tmps)=(c==p):=by
          simp only[Region.wanted,hg,hy]
          cases c<;>cases p<;>rfl
        rw[hw]
        cases c<;>cases p
        · exact zk9 hL hC g1 hd hk hK
        · exact skip s1 g1 hk
        · exact skip s1 g1 hk
        · exact zk9 hL hC g1 hd hk hK
    · cases h
theorem zmd (hL:zcC P E.lay) (hC:zaj P C.fix E.cons) {ops:Array Oper}:∀ (l:List Oper) {s:St} {bt:Nat→Option Value} {a:Act} {w:World},Gam C s NoX bt a.tmps w→a.defers=[]→zBK E ops.toList l s k=some r →
    zOT C k r (fun a w=>Q .normal a w)→wpList P ops Q l a w
  | [],s,bt,a,w,g,hd,h,hK=>hK s bt a w g hd h
  | o :: l,s,bt,a,w,g,hd,h,hK=>by
    refine wpList_step fun K hK'=>?_
    exact runOp_sound hL hC g hd h fun s' bt' a' w' g' hd' h'=>hK' a' w' (zmd hL hC l g' hd' h' hK)
end
end Go.Di
open Go.RowKit (Below)
namespace Go.Di
def zch (n:Nat) (s s':St):Prop:=(look n s'.ents).map frz=(look n s.ents).map frz
theorem zch.arr {n:Nat} {s s':St} (h:zch n s s') {fr:Bool} {t:ST} {xs:List t.El} (hl:look n s.ents=some (.arr fr t xs)):∃ fr',look n s'.ents=some (.arr fr' t xs):=by
  unfold zch at h
  rw[hl] at h
  cases h':look n s'.ents with
  | none=>rw[h'] at h; cases h
  | some e =>
    rw[h'] at h
    cases e with
    | box l=>simp[frz] at h
    | deep _ u ys=>simp[frz] at h
    | pool k=>simp[frz] at h
    | arr fr' u ys =>
      simp only[frz,Option.map_some,Option.some.injEq] at h
      cases h; exact ⟨_,rfl⟩
theorem zch.deep {n:Nat} {s s':St} (h:zch n s s') {fr:Bool} {t:ST} {xs:List t.El} (hl:look n s.ents=some (.deep fr t xs)):∃ fr',look n s'.ents=some (.deep fr' t xs):=by
  unfold zch at h
  rw[hl] at h
  cases h':look n s'.ents with
  | none=>rw[h'] at h; cases h
  | some e =>
    rw[h'] at h
    cases e with
    | box l=>simp[frz] at h
    | arr fr' u ys=>simp[frz] at h
    | pool k=>simp[frz] at h
    | deep fr' u ys =>
      simp only[frz,Option.map_some,Option.some.injEq] at h
      cases h; exact ⟨_,rfl⟩
theorem zch.box {n:Nat} {s s':St} (h:zch n s s') {l:List A1} (hl:look n s.ents=some (.box l)):look n s'.ents=some (.box l):=by
  unfold zch at h
  rw[hl] at h
  cases h':look n s'.ents with
  | none=>rw[h'] at h; cases h
  | some e =>
    rw[h'] at h
    cases e with
    | box l'=>simp only[frz,Option.map_some,Option.some.injEq] at h; rw[h]
    | arr fr' u ys=>simp[frz] at h
    | deep _ u ys=>simp[frz] at h
    | pool k=>simp[frz] at h
theorem zch.some {n:Nat} {s s':St} (h:zch n s s') {e:Ent} (hl:look n s.ents=some e):∃ e',look n s'.ents=some e':=by
  unfold zch at h
  rw[hl] at h
  cases h':look n s'.ents with
  | none=>rw[h'] at h; cases h
  | some e=>exact ⟨e,rfl⟩
section
variable {s s' s1:St} {av:AV} {lay:List (TypeId × TI)} {cons:List (FuncId × Con)} {o:Oper}
theorem zrR {i:TI} {a:A1} (h:∀ n∈a.nms,zch n s s') (hy:(lenOp s i a).Yields (av,s1)):s1=s∧(lenOp s' i a).Yields (av,s'):=by
  unfold lenOp at hy ⊢
  cases a with
  | d c =>
    cases c with
    | str a =>
      simp only at hy ⊢
      split at hy
      · cases hy; exact ⟨rfl,rfl⟩
      · exact hy.elim
    | sl t xs =>
      simp only at hy ⊢
      split at hy
      · exact hy.elim
      · cases hy; exact ⟨rfl,rfl⟩
    | int k n=>simp only at hy; split at hy<;>exact hy.elim
    | bool b=>simp only at hy; split at hy<;>exact hy.elim
    | tok k=>simp only at hy; split at hy<;>exact hy.elim
    | any=>simp only at hy; split at hy<;>exact hy.elim
  | mt =>
    simp only at hy ⊢
    split at hy
    · exact hy.elim
    · cases hy; exact ⟨rfl,rfl⟩
  | own n =>
    have hn:=h n (by simp[A1.nms])
    simp only at hy ⊢
    split at hy
    · exact hy.elim
    · split at hy
      · rename_i hl
        obtain ⟨fr',hl'⟩:=hn.arr hl
        rw[hl']
        cases hy; exact ⟨rfl,rfl⟩
      · exact hy.elim
  | win n lo k =>
    have hn:=h n (by simp[A1.nms])
    simp only at hy ⊢
    split at hy
    · exact hy.elim
    · split at hy
      · rename_i hl
        obtain ⟨fr',hl'⟩:=hn.arr hl
        rw[hl']
        cases hy; exact ⟨rfl,rfl⟩
      · exact hy.elim
  | bot=>simp only at hy; split at hy<;>exact hy.elim
  | lp n k=>simp only at hy; split at hy<;>exact hy.elim
  | sp c k=>simp only at hy; split at hy<;>exact hy.elim
  | oe n j k=>simp only at hy; split at hy<;>exact hy.elim
  | de n j k=>simp only at hy; split at hy<;>exact hy.elim
  | fn f c=>simp only at hy; split at hy<;>exact hy.elim
  | dp n =>
    have hn:=h n (by simp[A1.nms])
    simp only at hy ⊢
    split at hy
    · exact hy.elim
    · split at hy
      · rename_i hl
        obtain ⟨fr',hl'⟩:=hn.deep hl
        rw[hl']
        cases hy; exact ⟨rfl,rfl⟩
      · exact hy.elim
  | dc n i j ys =>
    have hn:=h n (by simp[A1.nms])
    simp only at hy ⊢
    split at hy
    · exact hy.elim
    · split at hy
      · exact hy.elim
      · rename_i u xs hnr hl
        obtain ⟨fr',hl'⟩:=hn.deep hl
        rw[hl']
        cases hy
        cases u with
        | rats=>exact (hnr _ rfl HEq.rfl).elim
        | _=>exact ⟨rfl,rfl⟩
      · exact hy.elim
theorem zvf {e:ST} {a:A1} {i:Int} (h:∀ n∈a.nms,zch n s s') (hy:(indexOp s e a i).Yields (av,s1)):s1=s∧(indexOp s' e a i).Yields (av,s'):=by
  unfold indexOp at hy ⊢
  cases a with
  | d c =>
    cases c with
    | sl t xs =>
      simp only at hy ⊢
      split at hy
      · obtain ⟨r,h1,h2⟩:=hy; cases h2; exact ⟨rfl,r,h1,rfl⟩
      · exact hy.elim
    | str a=>exact hy.elim
    | int k n=>exact hy.elim
    | bool b=>exact hy.elim
    | tok k=>exact hy.elim
    | any=>exact hy.elim
  | own n =>
    have hn:=h n (by simp[A1.nms])
    simp only at hy ⊢
    split at hy
    · rename_i hl
      obtain ⟨fr',hl'⟩:=hn.arr hl
      rw[hl']
      simp only
      split at hy
      · obtain ⟨r,h1,h2⟩:=hy; cases h2; exact ⟨rfl,r,h1,rfl⟩
      · exact hy.elim
    · exact hy.elim
  | win n lo k =>
    have hn:=h n (by simp[A1.nms])
    simp only at hy ⊢
    split at hy
    · rename_i hl
      obtain ⟨fr',hl'⟩:=hn.arr hl
      rw[hl']
      simp only
      split at hy
      · obtain ⟨r,h1,h2⟩:=hy; cases h2; exact ⟨rfl,r,h1,rfl⟩
      · exact hy.elim
    · exact hy.elim
  | dp n =>
    have hn:=h n (by simp[A1.nms])
    simp only at hy ⊢
    split at hy
    · rename_i hl
      obtain ⟨fr',hl'⟩:=hn.deep hl
      rw[hl']
      simp only
      split at hy
      · obtain ⟨r,h1,h2⟩:=hy; cases h2; exact ⟨rfl,r,h1,rfl⟩
      · exact hy.elim
    · exact hy.elim
  | bot=>exact hy.elim
  | mt=>exact hy.elim
  | lp n k=>exact hy.elim
  | sp c k=>exact hy.elim
  | oe n j k=>exact hy.elim
  | de n j k=>exact hy.elim
  | dc n i j ys=>exact hy.elim
  | fn f c=>exact hy.elim
theorem zzy {g:Bool} {k:Nat} {a:A1} (h:∀ n∈a.nms,zch n s s') (hy:(loadOp s g k a).Yields (av,s1)):s1=s∧(loadOp s' g k a).Yields (av,s'):=by
  unfold loadOp at hy ⊢
  cases a with
  | lp n off =>
    have hn:=h n (by simp[A1.nms])
    simp only at hy ⊢
    split at hy
    · rename_i hl
      rw[hn.box hl]
      simp only
      split at hy
      · cases hy; exact ⟨rfl,rfl⟩
      · exact hy.elim
    · exact hy.elim
  | sp c off =>
    simp only at hy ⊢
    split at hy
    · cases hy; exact ⟨rfl,rfl⟩
    · exact hy.elim
  | oe n j off =>
    have hn:=h n (by simp[A1.nms])
    simp only at hy ⊢
    split at hy
    · rename_i hl
      obtain ⟨fr',hl'⟩:=hn.arr hl
      rw[hl']
      simp only
      split at hy
      · obtain ⟨r,h1,h2⟩:=hy; cases h2; exact ⟨rfl,r,h1,rfl⟩
      · exact hy.elim
    · exact hy.elim
  | de n j off =>
    have hn:=h n (by simp[A1.nms])
    simp only at hy ⊢
    split at hy
    · rename_i hl
      obtain ⟨fr',hl'⟩:=hn.deep hl
      rw[hl']
      simp only
      split at hy
      · obtain ⟨r,h1,h2⟩:=hy; cases h2; exact ⟨rfl,r,h1,rfl⟩
      · exact hy.elim
    · exact hy.elim
  | d c=>exact hy.elim
  | own n=>exact hy.elim
  | win n lo k=>exact hy.elim
  | bot=>exact hy.elim
  | mt=>exact hy.elim
  | dp n=>exact hy.elim
  | dc n i j ys=>exact hy.elim
  | fn f c=>exact hy.elim
theorem zt4 {i:TI} {a:A1} {lo hi:Option AV} (h:∀ n∈a.nms,zch n s s') (hy:(sliceOp s i a lo hi).Yields (av,s1)):s1=s∧(sliceOp s' i a lo hi).Yields (av,s'):=by
  unfold sliceOp at hy ⊢
  cases a with
  | d c =>
    cases c with
    | sl t xs =>
      simp only at hy ⊢
      split at hy
      · obtain ⟨r,h1,h2⟩:=hy; cases h2; exact ⟨rfl,r,h1,rfl⟩
      · exact hy.elim
    | str a =>
      simp only at hy ⊢
      split at hy
      · obtain ⟨r,h1,h2⟩:=hy; cases h2; exact ⟨rfl,r,h1,rfl⟩
      · exact hy.elim
    | int k n=>exact hy.elim
    | bool b=>exact hy.elim
    | tok k=>exact hy.elim
    | any=>exact hy.elim
  | own n =>
    have hn:=h n (by simp[A1.nms])
    simp only at hy ⊢
    split at hy
    · rename_i hl
      obtain ⟨fr',hl'⟩:=hn.arr hl
      rw[hl']
      simp only
      split at hy
      · obtain ⟨r,h1,h2⟩:=hy; cases h2; exact ⟨rfl,r,h1,rfl⟩
      · exact hy.elim
    · exact hy.elim
  | lp n off=>exact hy.elim
  | sp c off=>exact hy.elim
  | oe n j off=>exact hy.elim
  | win n lo k=>exact hy.elim
  | bot=>exact hy.elim
  | mt=>exact hy.elim
  | dp n=>exact hy.elim
  | de n j k=>exact hy.elim
  | dc n i j ys=>exact hy.elim
  | fn f c=>exact hy.elim
theorem parts_local {fs:List (Nat × Nat × Bool)}:∀ {ps:List (Nat × Operand)} {l:List A1},(∀ p∈ps,zaW s' p.2=zaW s p.2)→partsOf fs s' ps l=partsOf fs s ps l
  | [],l,_=>rfl
  | (i, x) :: r,l,h=>by
    have hx:=h _ (List.mem_cons_self ..)
    simp only at hx
    unfold partsOf
    rw[hx]
    split
    · split
      · split
        · split
          · exact parts_local fun p hp=>h p (List.mem_cons_of_mem _ hp)
          · rfl
        · rfl
      · rfl
    · rfl
theorem zsI (t:ST) (xs:List t.El):ST.cast t t xs=some xs:=by cases t<;>rfl
theorem zsV {t:ST} {a:A1} {xs:List t.El} (h:∀ n∈a.nms,zch n s s') (hl:zim s.ents t a=some xs):zim s'.ents t a=some xs:=by
  obtain ⟨hd,hl⟩:=zsW hl
  unfold zim
  rw[hd]
  show a.as s'.ents (.sl t)=some xs
  cases a with
  | own n =>
    obtain ⟨fr,h1⟩:=zyA hl
    obtain ⟨fr',h2⟩:=(h n (by simp[A1.nms])).arr h1
    show (match look n s'.ents with | some (.arr _ u xs)=>ST.cast u t xs | _=>none)=some xs
    rw[h2]; exact zsI t xs
  | win n lo k =>
    obtain ⟨fr,ys,h1,rfl⟩:=zFg hl
    obtain ⟨fr',h2⟩:=(h n (by simp[A1.nms])).arr h1
    show (match look n s'.ents with | some (.arr _ u xs)=>ST.cast u t (cut xs lo (lo+k)) | _=>none)=some (cut ys lo (lo+k))
    rw[h2]; exact zsI t _
  | d c=>exact hl
  | mt=>exact hl
  | dp n=>cases hd
  | de n i k=>cases hd
  | dc n i k ys=>cases hd
  | bot=>simp[A1.as] at hl
  | lp n k=>simp[A1.as] at hl
  | sp c k=>simp[A1.as] at hl
  | oe n i k=>simp[A1.as] at hl
  | fn f c=>simp[A1.as] at hl
theorem zel {a:AV} {b:A1} (h:addrOf a=some b):b.nms ⊆ a.nms:=by
  unfold addrOf at h
  split at h
  · cases h; simp[AV.nms,zwy]
  · cases h
theorem zDS {k:IntKind} {a b:Int} {op:BinOp} (hy:(zve s k a b op).Yields (av,s1)):s1=s∧(zve s' k a b op).Yields (av,s'):=by
  cases op<;>simp only[zve] at hy ⊢<;>first | (exact hy.elim) | (cases hy; exact ⟨rfl,rfl⟩) | (obtain ⟨r,h1,h2⟩:=hy; cases h2; exact ⟨rfl,r,h1,rfl⟩)
theorem zFb {g:Bool} {op:BinOp} {x y:AV} (hy:(binOp s g op x y).Yields (av,s1)):s1=s∧(binOp s' g op x y).Yields (av,s'):=by
  unfold binOp at hy ⊢
  split at hy
  · split at hy
    · exact zDS hy
    · split at hy
      · obtain ⟨r,h1,h2⟩:=hy; cases h2; exact ⟨rfl,r,h1,rfl⟩
      · exact hy.elim
  · split at hy
    · split at hy
      · cases hy; exact ⟨rfl,rfl⟩
      · cases hy; exact ⟨rfl,rfl⟩
      · exact hy.elim
    · exact hy.elim
  · split at hy
    · cases hy; exact ⟨rfl,rfl⟩
    · cases hy; exact ⟨rfl,rfl⟩
    · obtain ⟨r,h1,h2⟩:=hy; cases h2; exact ⟨rfl,r,h1,rfl⟩
    · exact hy.elim
  · exact hy.elim
theorem pure_local (hp:zgJ o=true) (hop:∀ x∈o.op.operands,zaW s' x=zaW s x) (hlk:∀ x∈o.op.operands,∀ n∈(zaW s x).nms,zch n s s')
    (hy:(evalOp lay cons o s).Yields (av,s1)):s1=s∧(evalOp lay cons o s').Yields (av,s'):=by
  unfold zgJ at hp
  unfold evalOp at hy ⊢
  cases ho:o.op with
  | move x =>
    simp only[ho,Op.operands] at hop hy ⊢
    rw[hop x (by simp)]; cases hy; exact ⟨rfl,rfl⟩
  | assign x =>
    simp only[ho,Op.operands] at hop hy ⊢
    rw[hop x (by simp)]; cases hy; exact ⟨rfl,rfl⟩
  | pick c x y =>
    simp only[ho,Op.operands] at hop hy ⊢
    rw[hop c (by simp),hop x (by simp),hop y (by simp)]
    split at hy
    · cases hy; exact ⟨rfl,rfl⟩
    · split at hy<;>(cases hy; exact ⟨rfl,rfl⟩)
    · exact hy.elim
  | build t ps =>
    simp only[ho,Op.operands] at hop hy ⊢
    split at hy
    · rename_i i hi
      rw[parts_local (s:=s) (s':=s') fun p hp=>hop p.2 (by simp; exact ⟨p.1,by simpa using hp⟩)]
      split at hy
      · cases hy; exact ⟨rfl,rfl⟩
      · exact hy.elim
    · exact hy.elim
  | load t x =>
    simp only[ho,Op.operands] at hop hlk hy ⊢
    rw[hop x (by simp)]
    split at hy
    · rename_i hi ha
      exact zzy (fun n hn=>hlk x (by simp) n (zel ha hn)) hy
    · exact hy.elim
  | binOp b t x y u =>
    simp only[ho,Op.operands] at hop hy ⊢
    rw[hop x (by simp),hop y (by simp)]
    exact zFb hy
  | unOp u t x =>
    simp only[ho,Op.operands] at hop hy ⊢
    rw[hop x (by simp)]
    split at hy
    · cases hy; exact ⟨rfl,rfl⟩
    · cases hy; exact ⟨rfl,rfl⟩
    · exact hy.elim
  | convert u t x =>
    simp only[ho,Op.operands] at hop hlk hy ⊢
    rw[hop x (by simp)]
    split at hy
    · cases hy; exact ⟨rfl,rfl⟩
    · rename_i b hi h1 hint
      split at hy
      · rename_i xs hb hl
        rw[zsV (s':=s') (fun n hn=>hlk x (by simp) n (zel (by rw[h1]; rfl) hn)) hl,hb]
        cases hy
        exact ⟨rfl,rfl⟩
      · exact hy.elim
    · exact hy.elim
  | nilCheck x =>
    simp only[ho,Op.operands] at hop hlk hy ⊢
    rw[hop x (by simp)]
    split at hy
    · rename_i ha
      split at hy
      · rename_i hl
        obtain ⟨e',he'⟩:=(hlk x (by simp) _ (zel ha (by simp[A1.nms]))).some hl
        rw[he']; cases hy; exact ⟨rfl,rfl⟩
      · exact hy.elim
    · cases hy; exact ⟨rfl,rfl⟩
    · rename_i ha
      split at hy
      · rename_i hl
        obtain ⟨fr',he'⟩:=(hlk x (by simp) _ (zel ha (by simp[A1.nms]))).arr hl
        rw[he']; cases hy; exact ⟨rfl,rfl⟩
      · exact hy.elim
    · rename_i ha
      split at hy
      · rename_i hl
        obtain ⟨fr',he'⟩:=(hlk x (by simp) _ (zel ha (by simp[A1.nms]))).deep hl
        rw[he']; cases hy; exact ⟨rfl,rfl⟩
      · exact hy.elim
    · exact hy.elim
  | slice t x lo hi mx =>
    cases mx with
    | some m=>simp[ho] at hp
    | none =>
      simp only[ho,Op.operands] at hop hlk hy ⊢
      have hlo:lo.map (zaW s')=lo.map (zaW s):=by
        cases lo with
        | none=>rfl
        | some z=>simp only[Option.map_some]; rw[hop z (by simp)]
      have hhi:hi.map (zaW s')=hi.map (zaW s):=by
        cases hi with
        | none=>rfl
        | some z=>simp only[Option.map_some]; rw[hop z (by simp)]
      rw[hop x (by simp),hlo,hhi]
      split at hy
      · rename_i ha
        exact zt4 (fun n hn=>hlk x (by simp) n (zel ha hn)) hy
      · exact hy.elim
  | fieldAddr t x f =>
    simp only[ho,Op.operands] at hop hlk hy ⊢
    rw[hop x (by simp)]
    split at hy
    · rename_i hi ha
      split at hy
      · rename_i hst hf
        split at hy
        · rename_i hl
          obtain ⟨e',he'⟩:=(hlk x (by simp) _ (zel ha (by simp[A1.nms]))).some hl
          rw[he']; cases hy; exact ⟨rfl,rfl⟩
        · exact hy.elim
      · cases hy; exact ⟨rfl,rfl⟩
      · rename_i hst hf
        split at hy
        · rename_i hl
          obtain ⟨fr',he'⟩:=(hlk x (by simp) _ (zel ha (by simp[A1.nms]))).arr hl
          rw[he']; cases hy; exact ⟨rfl,rfl⟩
        · exact hy.elim
      · rename_i hst hf
        split at hy
        · rename_i hl
          obtain ⟨fr',he'⟩:=(hlk x (by simp) _ (zel ha (by simp[A1.nms]))).deep hl
          rw[he']
          cases hy; exact ⟨rfl,rfl⟩
        · exact hy.elim
      · exact hy.elim
    · exact hy.elim
  | field t x f =>
    simp only[ho,Op.operands] at hop hy ⊢
    rw[hop x (by simp)]
    split at hy
    · split at hy
      · split at hy
        · cases hy; exact ⟨rfl,rfl⟩
        · exact hy.elim
      · exact hy.elim
    · exact hy.elim
  | indexAddr t x y =>
    simp only[ho,Op.operands] at hop hlk hy ⊢
    rw[hop x (by simp),hop y (by simp)]
    split at hy
    · rename_i ha hj
      exact zvf (fun n hn=>hlk x (by simp) n (zel ha hn)) hy
    · exact hy.elim
  | index t x y =>
    simp only[ho,Op.operands] at hop hy ⊢
    rw[hop x (by simp),hop y (by simp)]
    split at hy
    · obtain ⟨r,h1,h2⟩:=hy; cases h2; exact ⟨rfl,r,h1,rfl⟩
    · exact hy.elim
  | extract x f =>
    simp only[ho,Op.operands] at hop hy ⊢
    rw[hop x (by simp)]
    split at hy
    · split at hy
      · cases hy; exact ⟨rfl,rfl⟩
      · exact hy.elim
    · exact hy.elim
  | buildSlice t len ps =>
    cases len with
    | succ n=>simp[ho] at hp
    | zero =>
      simp only[ho] at hy ⊢
      split at hy
      · cases hy; exact ⟨rfl,rfl⟩
      · exact hy.elim
  | call c =>
    obtain ⟨callee,args,ts⟩:=c
    cases callee with
    | invoke r m=>simp[ho] at hp
    | value f=>simp[ho] at hp
    | builtin b =>
      cases b<;>try (simp[ho] at hp; done)
      case len =>
        simp only[ho,Op.operands,Call.operands] at hop hlk hy ⊢
        split at hy
        · rename_i x t hx ht
          have hm:x∈args.toList:=by rw[hx]; simp
          rw[hop x (by simpa using hm)]
          split at hy
          · rename_i hi ha
            exact zrR (fun n hn=>hlk x (by simpa using hm) n (zel ha hn)) hy
          · exact hy.elim
        · exact hy.elim
  | _=>simp[ho] at hp
end
end Go.Di
open Go.RowKit (Below)
namespace Go.Di
structure Keep (T K:Nat→Prop) (s s':St):Prop where
  lk:∀ n,¬ T n→(∀ l,look n s.ents=some (.box l)→∀ m∈zwy l,¬ K m)→zch n s s'
  env:∀ (t:Nat) a,s.env[t]? = some a→(∀ m∈a.nms,¬ K m)→s'.env[t]? = some a
  len:s'.env.length=s.env.length
theorem zMB (e:Ent):frz (frz e)=frz e:=by cases e<;>rfl
theorem Keep.refl (T K:Nat→Prop) (s:St):Keep T K s s:=⟨fun _ _ _=>rfl,fun _ _ h _=>h,rfl⟩
theorem Keep.trans {T K:Nat→Prop} {s s1 s2:St} (h:Keep T K s s1) (k:Keep T K s1 s2):Keep T K s s2 where
  lk n hn hb:=by
    have h1:=h.lk n hn hb
    have h2:=k.lk n hn fun l hl=>by
      cases h':look n s.ents with
      | none=>unfold zch at h1; rw[h',hl] at h1; cases h1
      | some e =>
        cases e with
        | box l'=>rw[h1.box h'] at hl; cases hl; exact hb l h'
        | arr fr t xs=>obtain ⟨fr',h2⟩:=h1.arr h'; rw[h2] at hl; cases hl
        | deep fr t xs=>obtain ⟨fr',h2⟩:=h1.deep h'; rw[h2] at hl; cases hl
        | pool k=>have h1':(look n s1.ents).map frz=(look n s.ents).map frz:=h1; rw[h',hl] at h1'; cases h1'
    unfold zch at *
    rw[h2,h1]
  env t a ha hm:=k.env t a (h.env t a ha hm) hm
  len:=k.len.trans h.len
theorem zkR {m:Nat}:∀ {l:List A1},m ∉ zwy l→zdF m l=l
  | [],_=>rfl
  | a :: r,h=>by
    simp only[zwy,List.mem_append,not_or] at h
    unfold zdF
    rw[zkR h.2]
    congr 1
    cases a with
    | dc n i o ys =>
      simp only[A1.nms,List.mem_cons,List.not_mem_nil,or_false,not_or] at h
      simp only[A1.kill]
      split
      · rename_i hb; exact absurd (Nat.eq_of_beq_eq_true hb) h.1.1
      · split
        · rename_i hb; exact absurd (Nat.eq_of_beq_eq_true hb) h.1.2
        · rfl
    | _=>(simp only[A1.kill]<;>simp only[A1.nms,List.mem_singleton] at h<;>(split<;>first | rfl | (rename_i hb; simp at hb; exact absurd hb h.1)))
theorem zwE {m:Nat}:∀ {l:List (Bool × List A1)},m ∉ zLp l→zDM m l=l
  | [],_=>rfl
  | (b,a) :: r,h=>by
    simp only[zLp,List.mem_append,not_or] at h
    unfold zDM
    rw[zwE h.2,zkR h.1]
theorem zMu {m:Nat} {a:AV} (h:m ∉ a.nms):a.kill m=a:=by
  cases a with
  | v b l=>simp only[AV.kill]; rw[zkR h]
  | tup ps=>simp only[AV.kill]; rw[zwE h]
theorem Keep.free {T K:Nat→Prop} {s:St} {m:Nat} (hm:T m) (hM:K m):Keep T K s (s.free m) where
  lk n hn hb:=by
    have hne:n≠m:=fun e=>hn (e▸hm)
    unfold zch
    rw[za4,if_neg hne]
    cases h:look n s.ents with
    | none=>rfl
    | some e =>
      cases e with
      | box l=>simp only[Option.map_some,Ent.kill]; rw[zkR fun h'=>hb l h m h' hM]
      | arr fr t xs=>rfl
      | deep fr t xs=>rfl
      | pool k=>rfl
  env t a ha hms:=by
    have hk:a.kill m=a:=zMu fun h'=>hms m h' hM
    simp only[St.free]
    rw[zeh,ha,Option.map_some,hk]
  len:=zd7 m s.env
theorem Keep.freeL {T K:Nat→Prop}:∀ {l:List (Nat × Ent)} {s:St},(∀ m∈names l,T m∧K m)→Keep T K s (St.freeL l s)
  | [],s,_=>Keep.refl T K s
  | (n,e) :: r,s,h=>(Keep.free (h n (by simp[names])).1 (h n (by simp[names])).2).trans (Keep.freeL fun m hm=>h m (by simp only[names,List.map_cons,List.mem_cons] at hm ⊢; exact .inr hm))
theorem Keep.za1 {T K:Nat→Prop}:∀ {l:List Nat} {s:St},(∀ m∈l,T m∧K m)→Keep T K s (St.za1 l s)
  | [],s,_=>Keep.refl T K s
  | n :: _r,_s,h=>(Keep.free (h n (List.mem_cons_self ..)).1 (h n (List.mem_cons_self ..)).2).trans (Keep.za1 fun m hm=>h m (List.mem_cons_of_mem _ hm))
theorem Keep.put {T K:Nat→Prop} {s:St} {n:Nat} {e:Ent} (hn:T n):Keep T K s ⟨s.env,put n e s.ents⟩ where
  lk m hm _:=by
    have hne:m≠n:=fun e=>hm (e▸hn)
    unfold zch
    rw[za6,if_neg hne]
  env t a ha _:=ha
  len:=rfl
theorem Keep.zhW {T K:Nat→Prop} {s:St} {l:List (Nat × Ent)} (h:∀ m∈names l,T m):Keep T K s ⟨s.env,zhW l s.ents⟩ where
  lk m hm _:=by
    unfold zch
    rw[za3 m l s.ents fun h'=>hm (h m h')]
  env t a ha _:=ha
  len:=rfl
theorem Keep.zuf {T K:Nat→Prop} {s:St} {l:List (Nat × Ent)} (h:∀ m∈names l,T m∧K m):Keep T K s (St.zuf l s) :=
  (Keep.freeL h).trans (Keep.zhW (s:=St.freeL l s) fun m hm=>(h m hm).1)
theorem Keep.push {T K:Nat→Prop} {s:St} {n:Nat} {e:Ent} (h:T n) (hK:K n):Keep T K s (St.push n e s) :=
  Keep.zuf fun m hm=>by simp[names] at hm; exact hm▸⟨h,hK⟩
theorem Keep.freeze1 {T K:Nat→Prop} {s:St} (n:Nat):Keep T K s ⟨s.env,Go.Di.freeze1 n s.ents⟩ where
  lk m _ _:=by
    unfold zch
    rw[look_freeze1]
    split
    · cases look m s.ents with
      | none=>rfl
      | some e=>simp only[Option.map_some,zMB]
    · rfl
  env t a ha _:=ha
  len:=rfl
theorem Keep.zau {T K:Nat→Prop}:∀ {l:List A1} {s:St},Keep T K s ⟨s.env,Go.Di.zau l s.ents⟩
  | [],s=>Keep.refl T K s
  | a :: r,s=>by
    have h1:Keep T K s ⟨s.env,a.freeze s.ents⟩:=by
      cases a<;>first | exact Keep.refl T K s | exact Keep.freeze1 _
    exact h1.trans (Keep.zau (s:=⟨s.env,a.freeze s.ents⟩))
theorem zFT {m:Nat} {cs:List Cell} {a:A1} (h:m ∉ a.nms):a.shut m cs=a:=by
  have hk:a.kill m=a:=by
    have:=zkR (m:=m) (l:=[a]) (by simpa [zwy] using h)
    simpa [zdF] using this
  cases a with
  | lp n off =>
    simp only[A1.shut]
    split
    · rename_i hb; exact absurd (by simp[A1.nms,Nat.eq_of_beq_eq_true hb]) h
    · rfl
  | _=>exact hk
theorem zmD {m:Nat} {cs:List Cell}:∀ {l:List A1},m ∉ zwy l→zpJ m cs l=l
  | [],_=>rfl
  | a :: r,h=>by
    simp only[zwy,List.mem_append,not_or] at h
    unfold zpJ
    rw[zmD h.2,zFT h.1]
theorem zwi {m:Nat} {cs:List Cell}:∀ {l:List (Bool × List A1)},m ∉ zLp l→zFR m cs l=l
  | [],_=>rfl
  | (b,a) :: r,h=>by
    simp only[zLp,List.mem_append,not_or] at h
    unfold zFR
    rw[zwi h.2,zmD h.1]
theorem zLe {m:Nat} {cs:List Cell} {a:AV} (h:m ∉ a.nms):a.shut m cs=a:=by
  cases a with
  | v b l=>simp only[AV.shut]; rw[zmD h]
  | tup ps=>simp only[AV.shut]; rw[zwi h]
theorem Keep.shut {T K:Nat→Prop} {s:St} {m:Nat} {cs:List Cell} (hm:T m) (hM:K m):Keep T K s (s.shut m cs) where
  lk n hn hb:=by
    have hne:n≠m:=fun e=>hn (e▸hm)
    unfold zch
    rw[zee,if_neg hne]
    cases h:look n s.ents with
    | none=>rfl
    | some e =>
      cases e with
      | box l=>simp only[Option.map_some,Ent.shut]; rw[zmD fun h'=>hb l h m h' hM]
      | arr fr t xs=>rfl
      | deep fr t xs=>rfl
      | pool k=>rfl
  env t a ha hms:=by
    have hk:a.shut m cs=a:=zLe fun h'=>hms m h' hM
    simp only[St.shut]
    rw[znG,ha,Option.map_some,hk]
  len:=zh9 m cs s.env
theorem Keep.seal1 {T K:Nat→Prop} (hT:∀ n,T n∧K n) {s s1:St} {b:AV} {cs:List Cell} (h:seal1 s b=some (cs,s1)):Keep T K s s1:=by
  unfold Go.Di.seal1 at h
  split at h
  · cases h; exact Keep.refl _ _ _
  · split at h
    · split at h
      · cases h
        exact Keep.zau.trans (Keep.shut (hT _).1 (hT _).2)
      · cases h
    · cases h
  · cases h
theorem Keep.sealCaps {T K:Nat→Prop} (hT:∀ n,T n∧K n):∀ {xs:List Operand} {s s1:St} {css:List (List Cell)},sealCaps s xs=some (css,s1)→Keep T K s s1
  | [],s,s1,css,h=>by cases h; exact Keep.refl _ _ _
  | x :: r,s,s1,css,h=>by
    unfold Go.Di.sealCaps at h
    split at h
    · rename_i h1
      split at h
      · rename_i h2
        cases h
        exact (Keep.seal1 hT h1).trans (Keep.sealCaps hT h2)
      · cases h
    · cases h
section
variable {s s' s1:St} {av:AV} {lay:List (TypeId × TI)} {cons:List (FuncId × Con)} {o:Oper}
theorem zgi (d:Nat):Nat.beq (nm d / 64) d=true:=by
  have:nm d / 64=d:=by unfold nm; omega
  rw[this]; simp
theorem zt8 {T K:Nat→Prop} {m:Nat} {p:AV × St} (hm:T m∧K m) (hP:T PN):Keep T K p.2 (zpF m p).2:=by
  unfold zpF
  split
  · exact (Keep.free hm.1 hm.2).trans (Keep.put (s:=p.2.free m) hP)
  · exact ((Keep.free hm.1 hm.2).trans (Keep.put (s:=p.2.free m) hm.1)).trans (Keep.put (s:=⟨(p.2.free m).env,put m _ (p.2.free m).ents⟩) hP)
  · exact Keep.refl _ _ _
theorem zkf {T K:Nat→Prop} (hP:T PN):∀ {l:List Nat} {p:AV × St},(∀ m∈l,T m∧K m)→Keep T K p.2 (zt7 l p).2
  | [],_p,_=>Keep.refl _ _ _
  | m :: r,p,h=>(zt8 (h m (List.mem_cons_self ..)) hP).trans (zkf hP (l:=r) (p:=zpF m p) fun k hk=>h k (List.mem_cons_of_mem _ hk))
theorem zt5 {T K:Nat→Prop} (hP:T PN) {d:Nat} (hd:∀ q,q < 63→T (nm d+q)∧K (nm d+q)) {p:AV × St}:Keep T K p.2 (zt6 d p).2:=by
  have key:∀ m,m % 64≠63∧m / 64=d→T m∧K m:=fun m ⟨h1,h2⟩=>by
    have:m=nm d+m % 64:=by unfold nm; omega
    rw[this]
    exact hd _ (by omega)
  unfold zt6
  split
  · split
    · exact zkf hP fun m hm=>key m (zpR hm)
    · exact zkf hP fun m hm=>key m (zuk hm)
  · exact Keep.refl _ _ _
theorem call_keeps {T K:Nat→Prop} {c:Con} {avs:List AV} (hy:(zmo s (o.dst.getD 0) c avs).Yields (av,s')) (hdst:∀ q,q < 63→T (nm (o.dst.getD 0)+q)∧K (nm (o.dst.getD 0)+q))
    (hin:∀ q,q∈namesT c.sig.ins→T (zaF (c.sig.tin.src ⟨avs,zaJ s c.sig avs⟩) q)) (hgo:∀ m,m∈zj7 (c.sig.tin.src ⟨avs,zaJ s c.sig avs⟩) (namesT c.sig.outs) c.sig.ins→K m) (hst:∀ m,m∈zh5 (c.sig.tin.src ⟨avs,zaJ s c.sig avs⟩) c.sig.ins→T m∧K m) (hP:T PN):Keep T K s s':=by
  unfold zmo at hy
  split at hy
  · rename_i x hx hb
    obtain ⟨hb1,_⟩:=Bool.and_eq_true_iff.1 hb
    obtain ⟨_,hfine⟩:=Bool.and_eq_true_iff.1 hb1
    obtain ⟨y,h1,h2⟩:=hy
    obtain ⟨rfl,rfl⟩:=Prod.mk.inj h2
    refine Keep.trans ?_ (zt5 hP hdst)
    obtain ⟨_,hfine⟩:=zyC hfine
    obtain ⟨nd,hf2⟩:=zyC hfine
    obtain ⟨hpinIn,_⟩:=zyC hf2
    generalize c.sig.tin.src ⟨avs,zaJ s c.sig avs⟩=src at *
    have hname:∀ q t,(q,t)∈c.sig.outs→T (zby src (o.dst.getD 0) q):=fun q t hq=>by
      rcases pinIn_ok hpinIn hq with ⟨h63,hh⟩ | ⟨h63,hlt,_⟩
      · have hq':q∈namesT c.sig.ins:=by
          rcases hh with ⟨l1,l2,hh,_⟩ | ⟨t',hh,_⟩ | ⟨t',hh,_⟩<;>exact za2 (zgS hh)
        have:zby src (o.dst.getD 0) q=zaF src q:=by
          unfold zby; rw[h63]
        rw[this]; exact hin q hq'
      · have:zby src (o.dst.getD 0) q=nm (o.dst.getD 0)+q:=by
          unfold zby
          have hb:Nat.beq (q % 64) 63=false:=by rw[Bool.eq_false_iff]; intro hb; exact h63 (Nat.eq_of_beq_eq_true hb)
          rw[hb]
        rw[this]; exact (hdst q hlt).1
    have h1:Keep T K s ⟨s.env,zaJ s c.sig avs⟩:=by
      unfold zaJ
      split
      · exact Keep.zau
      · exact Keep.refl _ _ _
    refine h1.trans ?_
    refine (Keep.za1 fun m hm=>?_).trans (Keep.zhW fun m hm=>?_)
    · rcases List.mem_append.1 hm with hm | hm
      · rcases List.mem_append.1 hm with hm | hm
        · have hK:=hgo m hm
          obtain ⟨p,t,hp,rfl,_⟩:=zgN hm
          exact ⟨hin p (za2 hp),hK⟩
        · obtain ⟨q,t,hq,h63,rfl⟩:=zeU hm
          refine ⟨hname q t hq,?_⟩
          rcases pinIn_ok hpinIn hq with ⟨h63',_⟩ | ⟨_,hlt,_⟩
          · exact absurd h63' h63
          · have:zby src (o.dst.getD 0) q=nm (o.dst.getD 0)+q:=by
              unfold zby
              have hb:Nat.beq (q % 64) 63=false:=by rw[Bool.eq_false_iff]; intro hb; exact h63 (Nat.eq_of_beq_eq_true hb)
              rw[hb]
            rw[this]; exact (hdst q hlt).2
      · exact hst m hm
    · rw[zle] at hm
      obtain ⟨q,hq,rfl⟩:=List.mem_map.1 hm
      rw[show (c.sig.zgF.enc (c.out y)).ents=zgE c.sig.outs (Tys.snd (ksS (c.sig.res.map some)) (ksE c.sig.outs) (c.out y)) from rfl,zeS] at hq
      obtain ⟨t,ht⟩:=zeT hq
      exact hname q t ht
  · exact hy.elim
theorem zoI {T K:Nat→Prop} {n j off:Nat} {c:List A1} (hy:(zgL s n j off c).Yields (av,s')) (hT:T n):Keep T K s s':=by
  unfold zgL at hy
  split at hy
  · obtain ⟨e,_,h2⟩:=hy
    cases h2
    exact Keep.zau.trans (Keep.put (s:=⟨s.env,zau c s.ents⟩) hT)
  · exact hy.elim
theorem zka {es:List (Nat × Ent)}:∀ {l m:List A1} {K:List Nat},zdp es (l++m)=some K→∃ k1 k2,zdp es l=some k1∧zdp es m=some k2∧K=k1++k2
  | [],m,K,h=>⟨[],K,rfl,h,rfl⟩
  | a :: l,m,K,h=>by
    obtain ⟨k,l',e1,e2,rfl⟩:=zfi (a:=a) (r:=l++m) h
    obtain ⟨k1,k2,h1,h2,rfl⟩:=zka e2
    refine ⟨k++k1,k2,?_,h2,by simp⟩
    unfold zdp
    rw[e1,h1]
theorem taken_mem {t:ST}:∀ {ps:List (Nat × Operand)} {k:Nat} {es:List t.El} {cs:List A1} {K:List Nat},elemsOf s t k ps=some (es,cs)→zdp s.ents cs=some K→∀ m∈K,m∈takenNms s (ps.map (·.2))
  | [],k,es,cs,K,h,ha,m,hm=>by simp only[elemsOf] at h; cases h; cases ha; cases hm
  | (j, x) :: r,k,es,cs,K,h,ha,m,hm=>by
    simp only[elemsOf] at h
    split at h
    · split at h
      · rename_i c hc
        split at h
        · split at h
          · rename_i p hp
            cases h
            obtain ⟨k1,k2,h1,h2,rfl⟩:=zka ha
            simp only[List.map_cons,takenNms,hc,h1]
            rcases List.mem_append.1 hm with hm | hm
            · exact List.mem_append_left _ hm
            · exact List.mem_append_right _ (taken_mem (es:=p.1) (cs:=p.2) hp h2 m hm)
          · cases h
        · cases h
      · cases h
    · cases h
theorem zo4 {l:List Operand} {n i off:Nat} {ys:List Int} {r:List AV} (h:opsL s l = .v false [.dc n i off ys] :: r):n∈zcz s l∧dcn n∈zcz s l:=by
  cases l with
  | nil=>cases h
  | cons x q =>
    simp only[opsL,List.cons.injEq] at h
    have:addrOf (zaW s x)=some (.dc n i off ys):=by rw[h.1]; rfl
    simp only[zcz,this]
    exact ⟨by simp,by simp⟩
theorem eff_keeps (hy : (evalOp lay cons o s).Yields (av,s')):Keep (fun n=>touch cons s o n=true) (fun n=>zec cons s o n=true) s s':=by
  have hy0:=hy
  have hKg:(∀ f args ts,o.op ≠ .call ⟨.value (.func f),args,ts⟩)→(∀ t x y,o.op = .store t x y→∀ m i off,addrOf (zaW s x)≠some (.oe m i off))→∀ n,touch cons s o n=true→zec cons s o n=true:=by
    intro h h2 n hn
    unfold zec
    split
    · rename_i heq; exact absurd heq (h _ _ _)
    · rename_i heq
      split
      · rename_i ha; exact absurd ha (h2 _ _ _ heq _ _ _)
      · exact hn
    · exact hn
  unfold evalOp at hy
  cases ho:o.op with
  | alloc t =>
    simp only[ho] at hy
    split at hy
    · cases hy; exact Keep.push (by simp only[touch,ho]; exact zgi _) (by simp only[zec,touch,ho]; exact zgi _)
    · exact hy.elim
  | box t x =>
    simp only[ho] at hy
    split at hy
    · split at hy
      · cases hy; exact Keep.push (by simp only[touch,ho]; exact zgi _) (by simp only[zec,touch,ho]; exact zgi _)
      · exact hy.elim
    · exact hy.elim
  | makeSlice t x y =>
    simp only[ho] at hy
    split at hy
    · split at hy
      · split at hy
        · obtain ⟨r,h1,h2⟩:=hy; cases h2; exact Keep.push (by simp only[touch,ho]; exact zgi _) (by simp only[zec,touch,ho]; exact zgi _)
        · obtain ⟨r,h1,h2⟩:=hy; cases h2; exact Keep.push (by simp only[touch,ho]; exact zgi _) (by simp only[zec,touch,ho]; exact zgi _)
      · exact hy.elim
    · exact hy.elim
  | buildSlice t len ps =>
    have hK:=hKg (by rw[ho]; intro _ _ _ h; cases h) (by rw[ho]; intro _ _ _ h; cases h)
    simp only[ho] at hy
    split at hy
    · split at hy
      · cases hy; exact Keep.refl _ _ _
      split at hy
      · split at hy
        · rename_i m ys _ hone
          cases hy
          have hd:touch cons s o (nm (o.dst.getD 0))=true:=by simp only[touch,ho]; rw[zgi]; rfl
          have hm:touch cons s o m=true:=by
            have:m∈zB3 s ps.toList:=by unfold zB3; rw[hone]; simp
            simp only[touch,ho]
            rw[zaC.2 this]; simp
          exact (Keep.free hm (hK _ hm)).trans (Keep.push (s:=s.free m) hd (hK _ hd))
        · exact hy.elim
      · split at hy
        · rename_i es cs hes
          have hd:touch cons s o (nm (o.dst.getD 0))=true:=by simp only[touch,ho]; rw[zgi]; rfl
          split at hy
          · split at hy
            · split at hy
              · rename_i Kn habs
                split at hy
                · cases hy
                  refine (Keep.za1 fun m hm=>(fun h=>⟨h,hK _ h⟩) (?_:touch cons s o m=true)).trans (Keep.push (s:=St.za1 Kn s) hd (hK _ hd))
                  simp only[touch,ho]
                  rw[zaC.2 (taken_mem hes habs m hm)]; simp
                · exact hy.elim
              · exact hy.elim
            · cases hy
              exact Keep.zau.trans (Keep.push (s:=⟨s.env,zau cs s.ents⟩) hd (hK _ hd))
          · exact hy.elim
        · exact hy.elim
    · exact hy.elim
  | store t x y =>
    simp only[ho] at hy
    split at hy
    · rename_i i a c hi ha hc
      split at hy
      · unfold storeOp at hy
        split at hy
        · rename_i n off
          split at hy
          · split at hy
            · cases hy; exact Keep.put (by simp[touch,ho,ha])
            · exact hy.elim
          · exact hy.elim
        · rename_i n j
          split at hy
          · split at hy
            · split at hy
              · cases hy
                exact Keep.zau.trans (Keep.put (s:=⟨s.env,zau c s.ents⟩) (by simp[touch,ho,ha]))
              · exact hy.elim
            · exact zoI hy (by simp[touch,ho,ha])
          · exact hy.elim
        · exact zoI hy (by simp[touch,ho,ha])
        · rename_i n j off
          have hK:=hKg (by rw[ho]; intro _ _ _ h; cases h) (by rw[ho]; intro _ _ _ h; cases h; rw[ha]; intro _ _ _ h; cases h)
          unfold deepStore at hy
          split at hy
          · rename_i u xs Kn hl habs
            split at hy
            · obtain ⟨e',h1,h2⟩:=hy
              cases h2
              have hn:touch cons s o n=true:=by simp[touch,ho,ha]
              have hn2:touch cons s o (dcn n)=true:=by simp[touch,ho,ha]
              refine ((Keep.za1 fun m hm=>(fun h=>⟨h,hK _ h⟩) (?_:touch cons s o m=true)).trans (Keep.free (s:=St.za1 Kn s) hn2 (hK _ hn2))).trans (Keep.put (s:=(St.za1 Kn s).free (dcn n)) hn)
              simp only[touch,ho,ha,takenNms,hc,habs]
              rw[zaC.2 (List.mem_append_left _ hm)]; simp
            · exact hy.elim
          · exact hy.elim
        · exact hy.elim
      · exact hy.elim
    · exact hy.elim
  | call c =>
    obtain ⟨callee,args,ts⟩:=c
    cases callee with
    | invoke r m=>simp only[ho] at hy; exact hy.elim
    | value f =>
      cases f with
      | func f =>
        simp only[ho] at hy
        split at hy
        · rename_i c hc
          have fin:(zmo s (o.dst.getD 0) c (opsL s args.toList)).Yields (av,s')→Keep (fun n=>touch cons s o n=true) (fun n=>zec cons s o n=true) s s':=fun hy=>call_keeps hy (fun q hq=>by
            simp only[touch,zec,ho,hc]
            have:(nm (o.dst.getD 0)+q) / 64=o.dst.getD 0:=by unfold nm; omega
            rw[this]; simp) (fun q hq=>by
            simp only[touch,ho,hc]
            rw[zaC.2 (List.mem_append_left _ (List.mem_map.2 ⟨q,hq,rfl⟩))]; simp) (fun m hm=>by
            simp only[zec,ho,hc]
            rw[zaC.2 (List.mem_append_left _ hm)]; simp) (fun m hm=>by
            simp only[touch,zec,ho,hc]
            rw[zaC.2 (List.mem_append_right _ hm),zaC.2 (List.mem_append_right _ hm)]; simp) (by
            simp only[touch,ho,hc]; simp)
          have ht:∀ m,m∈zcz s args.toList→touch cons s o m=true:=fun m hm=>by
            simp only[touch,ho,hc]
            rw[zaC.2 hm]; simp
          have ht2:∀ m,m∈zcz s args.toList→zec cons s o m=true:=fun m hm=>by
            simp only[zec,ho,hc]
            rw[zaC.2 hm]; simp
          split at hy
          · rename_i n i off ys r hin hinner
            have hops:opsL s args.toList = .v false [.dc n i off ys] :: r:=by
              unfold zkn at hin
              split at hin
              · rename_i h; cases hin; exact h
              · cases hin
            obtain ⟨hn,hn2⟩:n∈zcz s args.toList∧dcn n∈zcz s args.toList:=zo4 hops
            unfold innerCall at hy
            split at hy
            · obtain ⟨p,h1,h2⟩:=hy
              cases h2
              exact (Keep.free (ht _ hn2) (ht2 _ hn2)).trans (Keep.put (s:=s.free (dcn n)) (ht _ hn))
            · exact hy.elim
          · rename_i n i off ys r hin hinner
            split at hy
            · have hops:opsL s args.toList = .v false [.dc n i off ys] :: r:=by
                unfold zkn at hin
                split at hin
                · rename_i h; cases hin; exact h
                · cases hin
              obtain ⟨hn,hn2⟩:n∈zcz s args.toList∧dcn n∈zcz s args.toList:=zo4 hops
              unfold innerCallR at hy
              split at hy
              · obtain ⟨p,h1,h2⟩:=hy
                cases h2
                exact (Keep.free (ht _ hn2) (ht2 _ hn2)).trans (Keep.put (s:=s.free (dcn n)) (ht _ hn))
              · exact hy.elim
            · exact fin hy
          · exact fin hy
        · exact hy.elim
      | tmp t =>
        simp only[ho] at hy
        split at hy
        · rename_i f css hfn
          split at hy
          · rename_i c hc
            have hK:=hKg (by rw[ho]; intro _ _ _ h; cases h) (by rw[ho]; intro _ _ _ h; cases h)
            have hin:∀ q,q∈namesT c.sig.ins→touch cons s o (zaF (c.sig.tin.src ⟨opsL s args.toList++zj4 css,zaJ s c.sig (opsL s args.toList++zj4 css)⟩) q)=true:=fun q hq=>by
              simp only[touch,ho,hfn,hc]
              rw[zaC.2 (List.mem_append_left _ (List.mem_map.2 ⟨q,hq,rfl⟩))]; simp
            have hst:∀ m,m∈zh5 (c.sig.tin.src ⟨opsL s args.toList++zj4 css,zaJ s c.sig (opsL s args.toList++zj4 css)⟩) c.sig.ins→touch cons s o m=true:=fun m hm=>by
              simp only[touch,ho,hfn,hc]
              rw[zaC.2 (List.mem_append_right _ hm)]; simp
            have hdst:∀ q,q < 63→touch cons s o (nm (o.dst.getD 0)+q)=true:=fun q hq=>by
              simp only[touch,ho,hfn,hc]
              have:(nm (o.dst.getD 0)+q) / 64=o.dst.getD 0:=by unfold nm; omega
              rw[this]; simp
            exact call_keeps hy (fun q hq=>⟨hdst q hq,hK _ (hdst q hq)⟩) hin (fun m hm=>by
              obtain ⟨p,t,hp,rfl,_⟩:=zgN hm
              exact hK _ (hin p (za2 hp))) (fun m hm=>⟨hst m hm,hK _ (hst m hm)⟩) (by
              simp only[touch,ho,hfn,hc]; simp)
          · exact hy.elim
        · exact hy.elim
      | const v=>simp only[ho] at hy; exact hy.elim
      | global v=>simp only[ho] at hy; exact hy.elim
    | builtin b =>
      have hK:=hKg (by rw[ho]; intro _ _ _ h; cases h) (by rw[ho]; intro _ _ _ h; cases h)
      obtain ⟨l⟩:=args
      cases b<;>try (simp only[ho] at hy; exact hy.elim)
      case max =>
        simp only[ho] at hy
        split at hy
        · split at hy
          · cases hy; exact Keep.refl _ _ _
          · exact hy.elim
        · exact hy.elim
      case len =>
        simp only[ho] at hy
        split at hy
        · split at hy
          · have:s'=s:=by
              have:=zrR (s':=s) (fun _ _=>rfl) hy
              exact this.1
            subst this; exact Keep.refl _ _ _
          · exact hy.elim
        · exact hy.elim
      case append =>
        have hbody : ∀ x y (t:TypeId),l=[x,y]→∀ a b e,addrOf (zaW s x)=some a→(appendOp s (o.dst.getD 0) e a b).Yields (av,s')→Keep (fun n=>touch cons s o n=true) (fun n=>zec cons s o n=true) s s':=by
          intro x y t hl a b e ha hy
          have hd:touch cons s o (nm (o.dst.getD 0))=true:=by
            simp only[touch,ho,hl]
            split
            · simp[zgi]
            · rw[zgi]; rfl
          unfold appendOp at hy
          split at hy
          · split at hy
            · obtain ⟨r,h1,h2⟩:=hy; cases h2
              exact Keep.push hd (hK _ hd)
            · rename_i n
              split at hy
              · split at hy
                · obtain ⟨r,h1,h2⟩:=hy; cases h2
                  have hn:touch cons s o n=true:=by
                    simp only[touch,ho,hl,ha]; simp
                  exact (Keep.free hn (hK _ hn)).trans (Keep.push (s:=s.free n) hd (hK _ hd))
                · exact hy.elim
              · exact hy.elim
            · exact hy.elim
          · exact hy.elim
        obtain ⟨m⟩:=ts
        match l,m with
        | [x, y], [t, u] =>
          simp only[ho] at hy
          split at hy
          · rename_i ha hb
            split at hy
            · rename_i m
              have hd:touch cons s o (nm (o.dst.getD 0))=true:=by
                simp only[touch,ho]
                split
                · simp[zgi]
                · rw[zgi]; rfl
              unfold appendD at hy
              split at hy
              · split at hy
                · split at hy
                  · obtain ⟨r,h1,h2⟩:=hy; cases h2
                    have hm:touch cons s o m=true:=by
                      simp only[touch,ho,ha]
                      rw[zaC.2 (show m∈zcz s [x,y] by simp[zcz,ha,hb])]; simp
                    exact (Keep.free hm (hK _ hm)).trans (Keep.push (s:=s.free m) hd (hK _ hd))
                  · rename_i n
                    split at hy
                    · split at hy
                      · obtain ⟨r,h1,h2⟩:=hy; cases h2
                        have hm:touch cons s o m=true:=by
                          simp only[touch,ho,ha]
                          rw[zaC.2 (show m∈zcz s [x,y] by simp[zcz,ha,hb])]; simp
                        have hn:touch cons s o n=true:=by
                          simp only[touch,ho,ha]
                          rw[zaC.2 (show n∈zcz s [x,y] by simp[zcz,ha,hb])]; simp
                        exact ((Keep.free hn (hK _ hn)).trans (Keep.free (s:=s.free n) hm (hK _ hm))).trans (Keep.push (s:=(s.free n).free m) hd (hK _ hd))
                      · exact hy.elim
                    · exact hy.elim
                  · exact hy.elim
                · exact hy.elim
              · exact hy.elim
            · exact hbody x y t rfl _ _ _ ha hy
          · exact hy.elim
        | [],_=>simp only[ho] at hy; exact hy.elim
        | [_],_=>simp only[ho] at hy; exact hy.elim
        | [_,_],[]=>simp only[ho] at hy; exact hy.elim
        | [_,_],[_]=>simp only[ho] at hy; exact hy.elim
        | [_,_],_ :: _ :: _ :: _=>simp only[ho] at hy; exact hy.elim
        | _ :: _ :: _ :: _,_=>simp only[ho] at hy; exact hy.elim
  | makeFunc fn first caps =>
    cases fn with
    | func f =>
      simp only[ho] at hy
      split at hy
      · rename_i hc
        cases hy
        exact Keep.sealCaps (fun n=>by simp[touch,zec,ho]) hc
      · exact hy.elim
    | _=>simp only[ho] at hy; exact hy.elim
  | move x=>simp only[ho] at hy; cases hy; exact Keep.refl _ _ _
  | assign x=>simp only[ho] at hy; cases hy; exact Keep.refl _ _ _
  | _ =>
    cases hp:zgJ o with
    | true =>
      have:=(pure_local (s':=s) (lay:=lay) (cons:=cons) (o:=o) hp (fun _ _=>rfl) (fun _ _ _ _=>rfl) hy0).1
      subst this; exact Keep.refl _ _ _
    | false =>
      first
        | (simp[zgJ,ho] at hp; done)
        | (simp only[ho] at hy; exact hy.elim)
        | (simp only[ho] at hy; split at hy<;>first | exact hy.elim | (simp_all [zgJ]; done))
end
end Go.Di
open Go.RowKit (Below)
namespace Go.Di
/-! ### The order -/
def zog (o:Oper) (j:Nat):Bool:=o.after.any fun e=>Region.binds .any e && Nat.beq e.on j
def zFh (ops:Array Oper) (d:Nat) (o:Oper):Bool:=!zgx d (o.looksAt ops) && (match o.dst with | some u=>!Nat.beq u d | none=>true)
def zgy (ops:Array Oper) (i:Nat) (o:Oper):Bool :=
  match o.dst with
  | none=>true
  | some d=>!zgx d (o.looksAt ops) && (List.range ops.size).all fun j=>Nat.beq j i || match ops[j]? with
    | some oj=>(match oj.dst with | some u=>!Nat.beq u d | none=>true) && (!zgx d (oj.looksAt ops) || zog oj i)
    | none=>true
def ancOk (ops:Array Oper) (o:Oper):List Nat→List Nat→Bool
  | [],_=>true
  | a :: A,known=>(zog o a || known.any fun m=>match ops[m]? with
      | some om=>zog om a
      | none=>false) && ancOk ops o A (a :: known)
def zB0 (o:Oper) (pre:List Nat):Bool:=o.after.all fun e=>!Region.binds .any e || zgx e.on pre
def flo (o:Oper):Bool :=
  match o.op,o.guard,o.dst with
  | .alloc _,none,some _=>true
  | _,_,_=>false
def planOk (ops:Array Oper):List Nat→List (Nat × List Nat)→Bool
  | _,[]=>true
  | pre, (i, A) :: rest=>match ops[i]? with
    | none=>false
    | some o => zB0 o pre && (!zgx i pre) && (match early o with
        | true=>zgy ops i o
        | false=>(rest.all fun p=>match ops[p.1]? with
            | some o'=>flo o' || o'.after.any fun e=>Region.binds .any e && (Nat.beq e.on i || rest.any fun q=>Nat.beq e.on q.1 && (match ops[q.1]? with | some oq=>!flo oq | none=>false))
            | none=>false) && (!flo o || zgy ops i o) && ancOk ops o A [] && pre.all fun q=>zgx q A || match ops[q]? with
              | some oq=>!early oq || (match o.dst with | some d=>zFh ops d oq | none=>true)
              | none=>true) && planOk ops (i :: pre) rest
def zmN (ops:Array Oper) (plan:List (Nat × List Nat)):Bool :=
  planOk ops [] plan && (Nat.ble plan.length ops.size && (List.range ops.size).all fun j=>plan.any fun p=>Nat.beq j p.1)
/-! ### One operation on abstract states -/
def wantedA (ops:List Oper) (o:Oper) (s:St):Option Bool :=
  match o.guard with
  | none=>some true
  | some (j,p)=>match ops[j]? with
    | some { dst:=some t,.. }=>match s.get t with
      | .v false [.d (.bool c)]=>some (c==p)
      | .tup []=>some false
      | _=>none
    | _=>none
def zmC (d:Option Nat) (a:AV) (s:St):St :=
  match d with
  | some t=>s.set t a
  | none=>s
def Stp (E:Env) (ops:List Oper) (o:Oper) (s s':St):Prop :=
  (wantedA ops o s=some true∧zFC o=true∧∃ av s1,(evalOp E.lay E.cons o s).Yields (av,s1)∧s'=zmC o.dst av s1) ∨
  (wantedA ops o s=some false∧s'=zmC o.dst (.tup []) s)
theorem zBE {s:St} {t:Nat} {a:AV} (h:s.env[t]? = some a):s.set t a=s:=by
  cases s with
  | mk env ents =>
    simp only[St.set,St.mk.injEq,and_true]
    apply List.ext_getElem?
    intro j
    rw[List.getElem?_set]
    split
    · rename_i e; subst e
      split
      · exact h.symm
      · rename_i hn
        simp only at h
        rw[List.getElem?_eq_none (by omega)] at h; cases h
    · rfl
theorem get_some {s:St} {t:Nat} {a:AV} (h:s.get t=a) (hb:a≠AV.bot):s.env[t]? = some a:=by
  unfold St.get at h
  rw[List.getD_eq_getElem?_getD] at h
  cases h':s.env[t]? with
  | none=>rw[h'] at h; exact absurd h.symm hb
  | some b=>rw[h'] at h; simpa using h
theorem runOp_stp {β:Type} {E:Env} {ops:List Oper} {o:Oper} {s:St} {k:St→Option β} {r:β} (h:runOp E ops o s k=some r):∃ s',Stp E ops o s s'∧k s'=some r:=by
  have step:∀ {s:St},zyQ E o s k=some r→wantedA ops o s=some true→∃ s',Stp E ops o s s'∧k s'=some r:=by
    intro s h hw
    unfold zyQ at h
    split at h
    · rename_i hwf
      obtain ⟨⟨av,s1⟩,hy,hk⟩:=zo9 h
      refine ⟨zmC o.dst av s1,.inl ⟨hw,hwf,av,s1,hy,rfl⟩,?_⟩
      cases hd:o.dst with
      | none=>rw[hd] at hk; exact hk
      | some t=>rw[hd] at hk; exact hk
    · cases h
  unfold runOp at h
  split at h
  · rename_i hg
    exact step h (by simp[wantedA,hg])
  · rename_i j p hg
    split at h
    · rename_i o2 t _ _ _ _ _ hj
      have skip:wantedA ops o s=some false→zyZ o s k=some r→∃ s',Stp E ops o s s'∧k s'=some r:=by
        intro hw hk
        unfold zyZ at hk
        refine ⟨zmC o.dst (.tup []) s,.inr ⟨hw,rfl⟩,?_⟩
        cases hd:o.dst with
        | none=>rw[hd] at hk; exact hk
        | some t=>rw[hd] at hk; exact hk
      split at h
      · rename_i hun
        exact skip (by simp only[wantedA,hg,hj,hun]) h
      · unfold zkw at h
        split at h
        · rename_i c hc
          have hs:∀ b,c=b→s.set t (.one (.d (.bool b)))=s:=fun b hb=>zBE (by rw[← hb]; exact get_some hc (by intro e; cases e))
          have hw:wantedA ops o s=some (c==p):=by
            simp only[wantedA,hg,hj,hc]
          cases c<;>simp only[cond_true,cond_false] at h<;>rw[hs _ rfl] at h<;>cases p
          · exact step h hw
          · exact skip hw h
          · exact skip hw h
          · exact step h hw
        · cases h
    · cases h
/-! ### What an early operation's value hangs on -/
structure Stable (E:Env) (ops:List Oper) (o:Oper) (s:St) (N:List Nat):Prop where
  wf:zFC o=true
  known:∃ c,wantedA ops o s=some c
  yes:wantedA ops o s=some true→∃ av,(evalOp E.lay E.cons o s).Yields (av,s)∧zmC o.dst av s=s∧∀ d,o.dst=some d→d < s.env.length→s.env[d]? = some av
  no:wantedA ops o s=some false→zmC o.dst (.tup []) s=s
  opn:readsOf o=true→∀ x∈o.op.operands,∀ n∈(zaW s x).nms,2 * n∈N
  box:readsOf o=true→∀ x∈o.op.operands,∀ n∈(zaW s x).nms,∀ l,look n s.ents=some (.box l)→∀ m∈zwy l,2 * m+1∈N
  val:∀ x∈o.op.operands,∀ n∈(zaW s x).nms,2 * n+1∈N
  res:∀ d,o.dst=some d→∀ n∈(s.get d).nms,2 * n+1∈N
theorem zrn {n:Nat}:∀ {l:List Nat},n∈l→2 * n∈evens l
  | m :: r,h=>by
    unfold evens
    rcases List.mem_cons.1 h with rfl | h
    · exact List.mem_cons_self ..
    · exact List.mem_cons_of_mem _ (zrn h)
theorem zmI {n:Nat}:∀ {l:List Nat},n∈l→2 * n+1∈odds l
  | m :: r,h=>by
    unfold odds
    rcases List.mem_cons.1 h with rfl | h
    · exact List.mem_cons_self ..
    · exact List.mem_cons_of_mem _ (zmI h)
theorem zoO {s:St} {x:Operand} {n:Nat}:∀ {l:List Operand},x∈l→n∈(zaW s x).nms→n∈zv6 s l
  | y :: r,hx,hn=>by
    unfold zv6
    rcases List.mem_cons.1 hx with rfl | hx
    · exact List.mem_append_left _ hn
    · exact List.mem_append_right _ (zoO hx hn)
theorem zoP {s:St} {n m:Nat} {l:List A1} (hl:look n s.ents=some (.box l)) (hm:m∈zwy l):∀ {r:List Nat},n∈r→m∈zoe s r
  | k :: r,h=>by
    rcases List.mem_cons.1 h with rfl | h
    · simp only[zoe,hl]; exact List.mem_append_left _ hm
    · have:=zoP hl hm h
      unfold zoe
      split
      · exact List.mem_append_right _ this
      · exact this
theorem znr {s:St} {x:Operand} {n:Nat}:∀ {l:List Operand},x∈l→(n∈(zaW s x).nms∨n∈zoe s (zaW s x).nms)→n∈zF4 s l
  | y :: r,h,hn=>by
    unfold zF4
    rcases List.mem_cons.1 h with rfl | h
    · rcases hn with hn | hn
      · exact List.mem_append_left _ hn
      · exact List.mem_append_right _ (List.mem_append_left _ hn)
    · exact List.mem_append_right _ (List.mem_append_right _ (znr h hn))
theorem zBH {f:Nat→Bool}:∀ {l:List Nat},zPL f l=true→∀ n∈l,f n=false
  | m :: r,h,n,hn=>by
    unfold zPL at h
    split at h
    · cases h
    · rename_i hm
      rcases List.mem_cons.1 hn with rfl | hn
      · exact hm
      · exact zBH h n hn
theorem zkh {f:Nat→Bool}:∀ {l:List (Nat × List Nat)},zkD f l=true→∀ p∈l,∀ n∈p.2,f n=false
  | (i,l) :: r,h,p,hp=>by
    unfold zkD at h
    split at h
    · rename_i hm
      rcases List.mem_cons.1 hp with rfl | hp
      · exact zBH hm
      · exact zkh h p hp
    · cases h
theorem znt {A:List Nat} {i:Nat} {N:List Nat} (hi:i ∉ A):∀ {l:List (Nat × List Nat)},(i,N)∈l→(i,N)∈zsf A l
  | (j,M) :: r,h=>by
    unfold zsf
    rcases List.mem_cons.1 h with e | h
    · cases e
      split
      · rename_i hm; exact absurd (zaC.1 hm) hi
      · exact List.mem_cons_self ..
    · split
      · exact znt hi h
      · exact List.mem_cons_of_mem _ (znt hi h)
end Go.Di
open Go.RowKit (Below)
namespace Go.Di
section
variable {P:Program} {C:Bs} {w w':World} {s s' s1:St} {X:Nat→Prop} {bt:Nat→Option Value} {a:Act} {o:Oper} {tm:Array Value} {β:Type}
  {K:Act→World→Prop} {Q:Exit→Act→World→Prop} {E:Env} {k:St→Option β} {r:β} {ops:Array Oper} {N:List Nat} {T:Nat→Prop}
theorem zns {t:Nat} (h:Operand.tmp t∈o.op.operands):t∈o.looksAt ops:=by
  unfold Oper.looksAt
  exact List.mem_append_left _ (List.mem_filterMap.2 ⟨.tmp t,by simpa using h,rfl⟩)
theorem zfP {j t:Nat} {p:Bool} {oj:Oper} (hg:o.guard=some (j,p)) (hj:ops[j]? = some oj) (hd:oj.dst=some t):t∈o.looksAt ops:=by
  unfold Oper.looksAt
  refine List.mem_append_right _ ?_
  simp[hg,hj,hd]
theorem zgM (h:∀ t∈o.looksAt ops,s'.get t=s.get t) {x:Operand} (hx:x∈o.op.operands):zaW s' x=zaW s x:=by
  cases x with
  | tmp t=>exact h t (zns hx)
  | const v =>
    unfold zaW
    split
    · rename_i h; cases h
    all_goals first | rfl | (rename_i h; cases h; rfl)
  | _=>simp only[zaW]
theorem zkx (h:∀ t∈o.looksAt ops,s'.get t=s.get t):wantedA ops.toList o s'=wantedA ops.toList o s:=by
  unfold wantedA
  cases hg:o.guard with
  | none=>rfl
  | some q =>
    obtain ⟨j,p⟩:=q
    simp only
    cases hj:ops.toList[j]? with
    | none=>rfl
    | some oj =>
      obtain ⟨dst,op,type,pos,after,guard⟩:=oj
      cases dst with
      | none=>rfl
      | some t =>
        simp only
        rw[h t (zfP hg (by rw[← hj,Array.getElem?_toList]) rfl)]
theorem wantedA_sound (g:Gam C s X bt a.tmps w) (hX:∀ t∈o.looksAt ops,¬ X t) {c:Bool} (hw:wantedA ops.toList o s=some c):Region.wanted o (yielded ops a.tmps)=c:=by
  unfold wantedA at hw
  cases hg:o.guard with
  | none=>rw[hg] at hw; cases hw; simp[Region.wanted,hg]
  | some q =>
    obtain ⟨j,p⟩:=q
    rw[hg] at hw
    simp only at hw
    split at hw
    · rename_i o2 t _ _ _ _ _ hj
      split at hw
      · rename_i b hb
        cases hw
        have hj':=hj
        rw[Array.getElem?_toList] at hj'
        have hx:=hX t (zfP hg hj' rfl)
        have hv:zaR (cx C s bt w) (.v false [.d (.bool b)]) (a.tmps.getD t undef):=g.env t _ hx (get_some hb (by intro e; cases e))
        have hb:=zf2 hv
        have hlt:t < a.tmps.size:=by
          rcases Nat.lt_or_ge t a.tmps.size with h' | h'
          · exact h'
          · simp[Array.getD,Nat.not_lt.2 h',undef] at hb
        have hget:a.tmps[t]? = some (.bool b):=by
          rw[Array.getElem?_eq_getElem hlt]; simp[Array.getD,hlt] at hb; rw[hb]
        have hy:yielded ops a.tmps j=some b:=by simp[yielded,hj',hget]
        simp only[Region.wanted,hg,hy]
        cases b<;>cases p<;>rfl
      · rename_i hun
        cases hw
        have hj':=hj
        rw[Array.getElem?_toList] at hj'
        have hx:=hX t (zfP hg hj' rfl)
        have hv:=zlc g (x := .tmp t) (fun u hu hxu=>hx (by cases hu; exact hxu))
        simp only[zaW,Act.eval] at hv
        rw[hun] at hv
        have hv:=zyx hv
        have hy:yielded ops a.tmps j=none:=by
          unfold yielded
          rw[hj']
          simp only[Option.bind_some]
          cases hg':a.tmps[t]? with
          | none=>rfl
          | some v =>
            have:v=undef:=by
              have hlt:=(Array.getElem?_eq_some_iff.1 hg').1
              have:=(Array.getElem?_eq_some_iff.1 hg').2
              simp[Array.getD,hlt] at hv
              rw[← this,hv]
            subst this; rfl
        simp only[Region.wanted,hg,hy]; rfl
      · cases hw
    · cases hw
theorem Gam.zRo (g:Gam C s X bt tm w) (d:Nat) (a:AV):Gam C (s.set d a) (fun t=>X t∨t=d) bt tm w where
  len:=by simp[St.set,g.len]
  env t av hx h:=by
    have hne:d≠t:=fun e=>hx (.inr e.symm)
    simp only[St.set,List.getElem?_set,hne,if_false] at h
    exact g.env t av (fun h=>hx (.inl h)) h
  ents:=g.ents
  uniq:=g.uniq
  fresh:=g.fresh
  kb:=g.kb
  below:=g.below
  bs:=g.bs
  fx:=g.fx
  pin:=g.pin
  np:=g.np
  tk:=g.tk
theorem zo1 {d t:Nat} {a:AV} (h:d≠t):(s.set d a).get t=s.get t:=by
  simp[St.get,St.set,List.getD_eq_getElem?_getD,h]
theorem zBG {d:Option Nat} {a:AV}:(zmC d a s).ents=s.ents:=by cases d<;>rfl
theorem zBF {d:Option Nat} {a:AV}:zmC d a (zmC d a s)=zmC d a s:=by
  cases d with
  | none=>rfl
  | some t=>simp[zmC,St.set]
theorem zFQ {d:Option Nat} {a:AV}:(zmC d a s).env.length=s.env.length:=by cases d<;>simp[zmC,St.set]
theorem Stp.stable (hp:zgJ o=true) (hd:∀ d,o.dst=some d→d ∉ o.looksAt ops) (h:Stp E ops.toList o s s') (hwf:zFC o=true) :
    (∃ av,s'=zmC o.dst av s)∧Stable E ops.toList o s' (zkj s' o):=by
  have main:∀ av c,s'=zmC o.dst av s→wantedA ops.toList o s=some c→(c=true→(evalOp E.lay E.cons o s).Yields (av,s))→(c=false→av = .tup [])→Stable E ops.toList o s' (zkj s' o):=by
    intro av c hs hw hy hn
    have hget:∀ t∈o.looksAt ops,s'.get t=s.get t:=by
      intro t ht
      rw[hs]
      cases hdst:o.dst with
      | none=>rfl
      | some d=>exact zo1 fun e=>hd d hdst (e▸ht)
    have hw':wantedA ops.toList o s'=some c:=by rw[zkx hget,hw]
    have hself:zmC o.dst av s'=s':=by rw[hs,zBF]
    refine ⟨hwf,⟨c,hw'⟩,fun h=>?_,fun h=>?_,fun hr x hx n hn=>?_,fun hr x hx n hn l hl m hm=>?_,fun x hx n hn=>?_,fun d hdst n hn=>?_⟩
    · rw [hw'] at h; cases h
      refine ⟨av,(pure_local hp (fun x hx=>zgM hget hx) (fun x hx n hn=>?_) (hy rfl)).2,hself,fun d hdst hlt=>?_⟩
      · unfold zch; rw[hs,zBG]
      · rw[hs] at hlt ⊢
        rw[zFQ] at hlt
        simp[hdst,zmC,St.set,hlt]
    · rw[hw'] at h; cases h
      rw[hn rfl] at hself; exact hself
    · unfold zkj; rw[hr]; exact List.mem_append_left _ (zrn (zoO (by simpa using hx) hn))
    · unfold zkj; exact List.mem_append_right _ (zmI (List.mem_append_left _ (znr (by simpa using hx) (.inr (zoP hl hm hn)))))
    · unfold zkj; exact List.mem_append_right _ (zmI (List.mem_append_left _ (znr (by simpa using hx) (.inl hn))))
    · unfold zkj; rw[hdst]; exact List.mem_append_right _ (zmI (List.mem_append_right _ hn))
  rcases h with ⟨h1,h2,av,s1,h3,h4⟩ | ⟨h1,h2⟩
  · have hs1:=(pure_local (s':=s) hp (fun _ _=>rfl) (fun _ _ _ _=>rfl) h3).1
    subst hs1
    exact ⟨⟨av,h4⟩,main av true h4 h1 (fun _=>h3) (fun h=>by cases h)⟩
  · exact ⟨⟨_,h2⟩,main (.tup []) false h2 h1 (fun h=>by cases h) (fun _=>rfl)⟩
theorem zug {lay:List (TypeId × TI)} {cons:List (FuncId × Con)} {s s' s1:St} {o:Oper} {av:AV} (hp:zgJ o=true) (hop:∀ x∈o.op.operands,zaW s' x=zaW s x) (hlk:readsOf o=true→∀ x∈o.op.operands,∀ n∈(zaW s x).nms,zch n s s')
    (hy:(evalOp lay cons o s).Yields (av,s1)):s1=s∧(evalOp lay cons o s').Yields (av,s'):=by
  cases hr:readsOf o with
  | true=>exact pure_local hp hop (hlk hr) hy
  | false =>
    unfold readsOf at hr
    split at hr
    · rename_i x ho
      unfold evalOp at hy ⊢
      simp only[ho,Op.operands] at hop hy ⊢
      rw[hop x (by simp)]; cases hy; exact ⟨rfl,rfl⟩
    · cases hr
theorem Stable.agree (hp:zgJ o=true) (h:Stable E ops.toList o s N) (hget:∀ t∈o.looksAt ops,s'.get t=s.get t) (hlk:readsOf o=true→∀ x∈o.op.operands,∀ n∈(zaW s x).nms,zch n s s')
    (hdst:∀ d,o.dst=some d→s'.env[d]? = s.env[d]?) (hlen:s'.env.length=s.env.length):Stable E ops.toList o s' N:=by
  have hw:=zkx hget
  have hg:∀ d,o.dst=some d→s'.get d=s.get d:=fun d hd=>by
    unfold St.get; rw[List.getD_eq_getElem?_getD,List.getD_eq_getElem?_getD,hdst d hd]
  have self:∀ av,zmC o.dst av s=s→zmC o.dst av s'=s':=by
    intro av h
    cases hd:o.dst with
    | none=>rfl
    | some d =>
      rw[hd] at h
      rcases Nat.lt_or_ge d s.env.length with hl | hl
      · have h1:s.env[d]? = some av:=by
          have h2:(s.set d av).env[d]? = s.env[d]? := by rw[show s.set d av=s from h]
          rw[← h2]; simp[St.set,hl]
        exact zBE (by rw[hdst d hd,h1])
      · have hl':s'.env.length≤d:=by rw[hlen]; exact hl
        have:s'.env.set d av=s'.env:=List.set_eq_of_length_le hl'
        simp only[zmC,St.set,this]
  refine ⟨h.wf,by rw[hw]; exact h.known,fun hy=>?_,fun hn=>self _ (h.no (by rw[← hw]; exact hn)),fun hr x hx n hn=>?_,fun hr x hx n hn l hl m hm=>?_,fun x hx n hn=>?_,fun d hd n hn=>?_⟩
  · obtain ⟨av,h1,h2,h3⟩:=h.yes (by rw[← hw]; exact hy)
    refine ⟨av,(zug hp (fun x hx=>zgM hget hx) hlk h1).2,self av h2,fun d hd hl=>?_⟩
    rw[hdst d hd]; exact h3 d hd (by rw[hlen] at hl; exact hl)
  · rw[zgM hget hx] at hn; exact h.opn hr x hx n hn
  · rw [zgM hget hx] at hn
    have hs:=hlk hr x hx n hn
    cases h':look n s.ents with
    | none=>unfold zch at hs; rw[h',hl] at hs; cases hs
    | some e =>
      cases e with
      | box l'=>rw[hs.box h'] at hl; cases hl; exact h.box hr x hx n hn l h' m hm
      | arr fr t xs=>obtain ⟨fr',h2⟩:=hs.arr h'; rw[h2] at hl; cases hl
      | deep fr t xs=>obtain ⟨fr',h2⟩:=hs.deep h'; rw[h2] at hl; cases hl
      | pool k=>unfold zch at hs; rw[h',hl] at hs; cases hs
  · rw[zgM hget hx] at hn; exact h.val x hx n hn
  · rw[hg d hd] at hn; exact h.res d hd n hn
theorem Stable.set (hp:zgJ o=true) (h:Stable E ops.toList o s N) {d:Nat} {av:AV} (hl:d ∉ o.looksAt ops) (hd:o.dst≠some d):Stable E ops.toList o (s.set d av) N :=
  h.agree hp (fun t ht=>zo1 fun e=>hl (e▸ht)) (fun _ _ _ _ _=>rfl) (fun u hu=>by
    have:d≠u:=fun e=>hd (e▸hu)
    simp[St.set,this]) (by simp[St.set])
theorem Stable.keep (hp:zgJ o=true) (h:Stable E ops.toList o s N) {Kp:Nat→Prop} (hk:Keep T Kp s s') (hT:∀ n,2 * n∈N→¬ T n) (hK:∀ n,2 * n+1∈N→¬ Kp n):Stable E ops.toList o s' N:=by
  have slot:∀ t,(∀ m∈(s.get t).nms,¬ Kp m)→s'.env[t]? = s.env[t]? := by
    intro t ht
    cases h':s.env[t]? with
    | none =>
      rw[List.getElem?_eq_none_iff] at h' ⊢
      rw[hk.len]; exact h'
    | some av =>
      refine hk.env t av h' fun m hm=>ht m ?_
      unfold St.get; rw[List.getD_eq_getElem?_getD,h']; exact hm
  have get:∀ t,(∀ m∈(s.get t).nms,¬ Kp m)→s'.get t=s.get t:=fun t ht=>by
    unfold St.get; rw[List.getD_eq_getElem?_getD,List.getD_eq_getElem?_getD,slot t ht]
  refine h.agree hp (fun t ht=>?_) (fun hr x hx n hn=>hk.lk n (hT n (h.opn hr x hx n hn)) fun l hl m hm=>hK m (h.box hr x hx n hn l hl m hm)) (fun d hd=>slot d fun m hm=>hK m (h.res d hd m hm)) hk.len
  unfold Oper.looksAt at ht
  rcases List.mem_append.1 ht with ht | ht
  · obtain ⟨x,hx,hxt⟩:=List.mem_filterMap.1 ht
    cases x<;>simp at hxt
    subst hxt
    exact get _ fun m hm=>hK m (h.val (.tmp _) (by simpa using hx) m hm)
  · cases hg:o.guard with
    | none=>rw[hg] at ht; cases ht
    | some q =>
      obtain ⟨j,p⟩:=q
      rw[hg] at ht
      simp only[Option.mem_toList] at ht
      obtain ⟨c,hc⟩:=h.known
      unfold wantedA at hc
      rw[hg] at hc
      simp only at hc
      split at hc
      · rename_i o2 t' _ _ _ _ _ hj
        rw[Array.getElem?_toList] at hj
        have:t'=t:=by
          rw[hj] at ht; simpa using ht
        subst this
        split at hc
        · rename_i b hb
          refine get _ fun m hm=>?_
          rw[hb] at hm
          simp[AV.nms,zwy,A1.nms] at hm
        · rename_i hun
          refine get _ fun m hm=>?_
          rw[hun] at hm
          simp[AV.nms,zLp] at hm
        · cases hc
      · cases hc
end
end Go.Di
