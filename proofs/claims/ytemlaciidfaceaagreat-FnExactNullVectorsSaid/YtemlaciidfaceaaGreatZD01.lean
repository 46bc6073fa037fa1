/-
  Own work: part 2 of the texts that the proof of the given statement leans on.
-/
import Derived.Test.YtemlaciidfaceaaGreatZD00
noncomputable section
open Go.RowKit (Below)
namespace Go.Di
theorem zhw (t:ST) (xs ys:List t.El):flat t (xs++ys)=flat t xs++flat t ys:=by simp[flat]
theorem both_ok {x:Cx} {t:ST} {xs ys:List t.El} {olds news rest:List Value} {cur:Array Value} (hc:cur.toList=olds++news++rest) (hl:olds.length=xs.length * t.size) (hn:news.length=ys.length * t.size)
    (h1:∀ (j:Nat) (c:Cell),(flat t xs)[j]? = some c→∃ u,olds[j]? = some u∧x.rd u c) (h2:∀ (j:Nat) (c:Cell),(flat t ys)[j]? = some c→∃ u,news[j]? = some u∧x.rd u c) :
    ∀ (i:Nat) (c:Cell),(flat t (xs++ys))[i]? = some c→∃ u,cur[i]? = some u∧x.rd u c:=by
  intro i c hi
  have hlt:=(List.getElem?_eq_some_iff.1 hi).1
  rw[zhw,List.length_append,zaD,zaD] at hlt
  rw[zhw] at hi
  rw[← Array.getElem?_toList,hc,zbS]
  by_cases h:i < olds.length
  · rw[List.getElem?_append_left (by rw[zaD]; omega)] at hi
    rw[if_pos h]; exact h1 i c hi
  · rw[List.getElem?_append_right (by rw[zaD]; omega),zaD] at hi
    rw[if_neg h,if_pos (by omega),hl]; exact h2 _ c hi
section
variable {P:Program} {C:Bs} {w w':World} {s s':St} {X:Nat→Prop} {β β':Nat→Option Value} {a:Act} {o:Oper} {tm:Array Value}
  {t:TypeId} {x y:Operand} {i:TI} {K:Act→World→Prop} {Q:Exit→Act→World→Prop}
theorem zh4 {_E:TypeId} {e:ST} {ez:Value} (q5:zOk (zeroOf e) ez.cells.toList=true):ez.cells.size=e.size:=by
  have h3:zck ⟨default,fun _=>none,fun _=>none,fun _=>True⟩ (zeroOf e) ez.cells.toList:=zmb q5
  have:=h3.length
  simp only[Array.length_toList] at this
  rw[← this]; cases e<;>rfl
theorem zb8 {_ty:TypeId} {v1 v2:Value} {r:Value} (ho:o.op = .call { callee := .builtin .append,args:=#[x,y],argTypes:=#[t,t] }) (hx:a.eval x=v1) (hy:a.eval y=v2)
    (h:(Builtin.append_ #[t,t] o.type #[v1,v2]).run P w = .ok r w'):(execOp a.eval o).run P w = .ok (.value r) w':=by
  simp[execOp,ho,resolve,invoke,builtin,hx,hy,h]
theorem append_mt (hL:zg1 P t i) {e:ST} (he:i.elem=some e) (ho:o.op = .call { callee := .builtin .append,args:=#[x,y],argTypes:=#[t,t] }) (g:Gam C s X β a.tmps w) (d:Nat) {b:A1} {ys:List e.El}
    {ad:Option Addr} (hx:a.eval x = .slice ad 0 0) (hy:zaR (cx C s β w) (.v false [b]) (a.eval y)) (hb:zim s.ents e b=some ys) (hmax:ys.length≤zan)
    (hK:Goes C X o a (.one (.own (nm d))) (s.push (nm d) (.arr false e ys)) K):o.wp P a w K Q:=by
  obtain ⟨inf,d',z',hi,hu,_,_,_,_,_,hel,_⟩:=hL
  obtain ⟨E,rfl,einf,ez,q1,q2,q3,q4,q5⟩:=hel e he
  obtain ⟨a1,h1,h2,_⟩:=hy; cases h1
  obtain ⟨news,hn,hnr⟩:=zmT g h2 hb
  rw[← q2] at hn
  have hmx:ys.length≤68719476736:=hmax
  by_cases h0:ys.length=0
  · have hys:ys=[]:=List.eq_nil_of_length_eq_zero h0
    subst hys
    have hr:(Builtin.append_ #[t,t] o.type #[.slice ad 0 0,a.eval y]).run P w = .ok (.slice ad 0 0) w:=by
      obtain ⟨hf,hl⟩:=hn.first (P:=P) (w':=w) fun _ _=>rfl
      have hnn:news=[]:=List.eq_nil_of_length_eq_zero (by simpa using hn.1)
      subst hnn
      simp only[List.length_nil] at hf hl
      cases ad<;>simp[Builtin.append_,run_underlying hu,sizeOf,typeInfo,q1,hl,hf,storeCells]
    have gp:=g.zhk (Below.refl _ _) (hnm:=zfd d) (n:=nm d) (e := .arr false e []) (v := .slice ad 0 0) (fun b hb=>by cases ad<;>simp[zaq] at hb) fun _ => .inl ⟨rfl,ad,rfl⟩
    exact zdX (zb8 (_ty:=o.type) ho hx rfl hr) (hK _ _ _ gp (zbT (a := .own _) (fun _ _ _ _=>upd_same ..) rfl))
  · have hfo:(Builtin.firstCells einf.size 0 (.slice ad 0 0)).run P w.drew = .ok ([]:List Value).toArray w.drew:=by
      cases ad<;>simp[Builtin.firstCells,loadCells,loadCellsFrom]
    obtain ⟨cap,hcap,hcm,hr⟩:=zd2 (P:=P) (ty:=o.type) (w:=w) hu q1 q4 (ad:=ad) (sLen:=0) (sCap:=0) (olds:=[]) hfo hn (by omega) (by omega) (by rw[Nat.zero_add]; calc ys.length * einf.bytes≤68719476736 * 256:=Nat.mul_le_mul hmx q3
      _≤_:=by decide)
    simp only[Nat.zero_add] at hr hcap hcm
    have hbel:Below w.heap.size w (w.drew.alloc (.cells (([]:List Value).toArray++news.toArray++Builtin.zeroCells ez.cells (cap - ys.length)) E)):=((Below.refl _ _).drew).alloc (Nat.le_refl _) _
    have gp:=g.zhk hbel (hnm:=zfd d) (n:=nm d) (e := .arr false e ys) (v := .slice (some ⟨w.heap.size,0,none⟩) ys.length cap) (fun b hb=>by
        cases cap with
        | zero=>omega
        | succ k=>simp[zaq] at hb; subst hb; simp) fun hle => .inr ⟨w.heap.size,cap,_,E,rfl,by omega,hcap,hcm (by unfold maxLen; omega),heap_alloc w.drew _,by
          simp only[Array.size_append,List.size_toArray,List.length_nil,size_zeroCells,zh4 (_E:=E) q5,hn.1,q2,Nat.zero_add,← Nat.add_mul]; congr 1; omega,fun j c hc=>by
          obtain ⟨u,hu',hr'⟩:=hnr j c hc
          refine ⟨u,?_,hle.rd ((zkm (nm d)).rd hr')⟩
          have hj:=(List.getElem?_eq_some_iff.1 hu').1
          have hj2:=(List.getElem?_eq_some_iff.1 hu').2
          simp only[Array.empty_append]
          rw[Array.getElem?_append_left (by simpa using hj)]; simpa using hu'⟩
    exact zdX (zb8 (_ty:=o.type) ho hx rfl hr) (hK _ _ _ gp (zbT (a := .own _) (fun _ _ _ _=>upd_same ..) rfl))
theorem append_own (hL:zg1 P t i) {e:ST} (he:i.elem=some e) (ho:o.op = .call { callee := .builtin .append,args:=#[x,y],argTypes:=#[t,t] }) (g:Gam C s X β a.tmps w) (d:Nat) {n:Nat} {b:A1} {xs ys:List e.El}
    (hl:look n s.ents=some (.arr false e xs)) (hx:zaR (cx C s β w) (.v false [.own n]) (a.eval x)) (hy:zaR (cx C s β w) (.v false [b]) (a.eval y)) (hb:zim s.ents e b=some ys) (hmax:xs.length+ys.length≤zan)
    (hK:Goes C X o a (.one (.own (nm d))) ((s.free n).push (nm d) (.arr false e (xs++ys))) K):o.wp P a w K Q:=by
  obtain ⟨a1,h1,hxn,_⟩:=hx; cases h1
  have hβ:=hxn _ _ _ hl
  have hent:=g.ents n _ _ hl hβ
  rcases hent with ⟨h0,ad,hv⟩ | ⟨gb,cap,cur,T,hv,hc0,hlc,hcm,hg,hcs,hold⟩
  · subst h0
    have hK':Goes C X o a (.one (.own (nm d))) ((s.free n).push (nm d) (.arr false e ys)) K:=by simpa using hK
    -- as at an empty slice, behind the name's being freed
    obtain ⟨inf,d',z',hi,hu,_,_,_,_,_,hel,_⟩:=hL
    obtain ⟨E,rfl,einf,ez,q1,q2,q3,q4,q5⟩:=hel e he
    obtain ⟨a1,h1,h2,_⟩:=hy; cases h1
    obtain ⟨news,hn,hnr⟩:=zmT g h2 hb
    rw[← q2] at hn
    have hmx:ys.length≤68719476736:=by simpa [zan] using hmax
    by_cases h0:ys.length=0
    · have hys:ys=[]:=List.eq_nil_of_length_eq_zero h0
      subst hys
      have hr:(Builtin.append_ #[t,t] o.type #[.slice ad 0 0,a.eval y]).run P w = .ok (.slice ad 0 0) w:=by
        obtain ⟨hf,hl⟩:=hn.first (P:=P) (w':=w) fun _ _=>rfl
        have hnn:news=[]:=List.eq_nil_of_length_eq_zero (by simpa using hn.1)
        subst hnn
        simp only[List.length_nil] at hf hl
        cases ad<;>simp[Builtin.append_,run_underlying hu,sizeOf,typeInfo,q1,hl,hf,storeCells]
      have gp:=(g.free n).zhk (Below.refl _ _) (hnm:=zfd d) (n:=nm d) (e := .arr false e []) (v := .slice ad 0 0) (fun b hb=>by cases ad<;>simp[zaq] at hb) fun _ => .inl ⟨rfl,ad,rfl⟩
      exact zdX (zb8 (_ty:=o.type) ho hv rfl hr) (hK' _ _ _ gp (zbT (a := .own _) (fun _ _ _ _=>upd_same ..) rfl))
    · have hfo:(Builtin.firstCells einf.size 0 (.slice ad 0 0)).run P w.drew = .ok ([]:List Value).toArray w.drew:=by
        cases ad<;>simp[Builtin.firstCells,loadCells,loadCellsFrom]
      obtain ⟨cap,hcap,hcm,hr⟩:=zd2 (P:=P) (ty:=o.type) (w:=w) hu q1 q4 (ad:=ad) (sLen:=0) (sCap:=0) (olds:=[]) hfo hn (by omega) (by omega) (by rw[Nat.zero_add]; calc ys.length * einf.bytes≤68719476736 * 256:=Nat.mul_le_mul hmx q3
        _≤_:=by decide)
      simp only[Nat.zero_add] at hr hcap hcm
      have hbel:Below w.heap.size w (w.drew.alloc (.cells (([]:List Value).toArray++news.toArray++Builtin.zeroCells ez.cells (cap - ys.length)) E)):=((Below.refl _ _).drew).alloc (Nat.le_refl _) _
      have gp:=(g.free n).zhk hbel (hnm:=zfd d) (n:=nm d) (e := .arr false e ys) (v := .slice (some ⟨w.heap.size,0,none⟩) ys.length cap) (fun b hb=>by
          cases cap with
          | zero=>omega
          | succ k=>simp[zaq] at hb; subst hb; simp) fun hle => .inr ⟨w.heap.size,cap,_,E,rfl,by omega,hcap,hcm (by unfold maxLen; omega),heap_alloc w.drew _,by
            simp only[Array.size_append,List.size_toArray,List.length_nil,size_zeroCells,zh4 (_E:=E) q5,hn.1,q2,Nat.zero_add,← Nat.add_mul]; congr 1; omega,fun j c hc=>by
            obtain ⟨u,hu',hr'⟩:=hnr j c hc
            refine ⟨u,?_,hle.rd ((zkm (nm d)).rd ((zkm n).rd hr'))⟩
            have hj:=(List.getElem?_eq_some_iff.1 hu').1
            simp only[Array.empty_append]
            rw[Array.getElem?_append_left (by simpa using hj)]; simpa using hu'⟩
      exact zdX (zb8 (_ty:=o.type) ho hv rfl hr) (hK' _ _ _ gp (zbT (a := .own _) (fun _ _ _ _=>upd_same ..) rfl))
  · obtain ⟨newo,hno,hnor⟩:=znV (g.ents n _ _ hl hβ)
    obtain ⟨inf,d',z',hi,hu,_,_,_,_,_,hel,_⟩:=hL
    obtain ⟨E,rfl,einf,ez,q1,q2,q3,q4,q5⟩:=hel e he
    obtain ⟨a1,h1,h2,_⟩:=hy; cases h1
    obtain ⟨news,hn,hnr⟩:=zmT g h2 hb
    rw[← q2] at hn hno
    have hmx:xs.length+ys.length≤68719476736:=hmax
    have hcl:cur.toList.length=cap * e.size:=by simpa using hcs
    have hcl2:(cur.toList.take (xs.length * einf.size)).length=xs.length * e.size:=by
      have:=Nat.mul_le_mul_right e.size hlc
      rw[List.length_take,hcl,q2]; omega
    have htopv:∀ c,0 < c→zaq (.slice (some ⟨gb,0,none⟩) xs.length c)=[gb]:=fun c hc=>by cases c with | zero=>omega | succ k=>rfl
    have hb0:¬ C.keep gb:=(g.fresh gb ⟨n,_,_,hl,rfl,hβ,by rw[hv,htopv cap hc0]; simp⟩).1
    by_cases hroom:xs.length+ys.length≤cap
    · have hfit:xs.length * einf.size+news.length≤cur.size:=by rw[hn.1,hcs,q2,← Nat.add_mul]; exact Nat.mul_le_mul_right _ hroom
      have hr:=run_append_fits (P:=P) (_z:=ez) (ty:=o.type) hu q1 hg hn hroom hfit
      have gp := g.swap (n:=n) (m:=nm d) (e' := .arr false e (xs++ys)) (v' := .slice (some ⟨gb,0,none⟩) (xs.length+ys.length) cap) hl rfl hβ (w':=w.setRow gb (cur.toList.take (xs.length * einf.size)++news++cur.toList.drop (xs.length * einf.size+news.length)).toArray)
        (fun k hk hnk=>setRow_other w gb k _ fun e'=>hnk (by rw[hv,htopv cap hc0,e']; simp)) (by simp[World.setRow]) (below_setRow hb0 _) (zfd d)
        (fun k hk => .inl (by rw[hv,htopv cap hc0]; cases cap with | zero=>omega | succ q=>simpa [zaq] using hk)) fun hle => .inr ⟨gb,cap,_,T,by simp,hc0,by simpa using hroom,hcm,setRow_heap w gb cur _ T (0,0) hg,by
          simp only[List.size_toArray,List.length_append,List.length_take,List.length_drop,Array.length_toList]; omega,
          both_ok (x:=cx C ((s.free n).push (nm d) (.arr false e (xs++ys))) (upd β (nm d) (.slice (some ⟨gb,0,none⟩) (xs.length+ys.length) cap)) (w.setRow gb (cur.toList.take (xs.length * einf.size)++news++cur.toList.drop (xs.length * einf.size+news.length)).toArray))
            (olds:=cur.toList.take (xs.length * einf.size)) (news:=news) (rest:=cur.toList.drop (xs.length * einf.size+news.length)) rfl (hcl2) (by rw[hn.1,q2])
            (fun j c hj=>by
              obtain ⟨u,hu',hr'⟩:=hold j c hj
              have hjl:=(List.getElem?_eq_some_iff.1 hj).1
              rw[zaD] at hjl
              exact ⟨u,by rw[List.getElem?_take_of_lt (by rw[q2]; exact hjl)]; simpa using hu',hle.rd hr'⟩)
            (fun j c hj=>by obtain ⟨u,hu',hr'⟩:=hnr j c hj; exact ⟨u,hu',hle.rd hr'⟩)⟩
      exact zdX (zb8 (_ty:=o.type) ho hv rfl hr) (hK _ _ _ gp (zbT (a := .own _) (fun _ _ _ _=>upd_same ..) rfl))
    · have hfo:(Builtin.firstCells einf.size xs.length (.slice (some ⟨gb,0,none⟩) xs.length cap)).run P w.drew = .ok newo.toArray w.drew:=by
        rw[← hv]; exact (hno.first (P:=P) (w':=w.drew) fun _ _=>rfl).1
      obtain ⟨cap',hcap,hcm',hr⟩:=zd2 (P:=P) (ty:=o.type) (w:=w) hu q1 q4 hfo hn (by omega) (by omega) (by calc (xs.length+ys.length) * einf.bytes≤68719476736 * 256:=Nat.mul_le_mul hmx q3
        _≤_:=by decide)
      have gp:=g.swap (n:=n) (m:=nm d) (e' := .arr false e (xs++ys)) (v' := .slice (some ⟨w.heap.size,0,none⟩) (xs.length+ys.length) cap') hl rfl hβ (w':=w.drew.alloc (.cells (newo.toArray++news.toArray++Builtin.zeroCells ez.cells (cap' - (xs.length+ys.length))) E))
        (fun k hk _=>Below.heap_alloc w.drew _ k hk) (by simp) (Kp.of (((Below.refl _ _).drew).alloc (Nat.le_refl _) _) g.kb) (zfd d)
        (fun k hk => .inr (by cases cap' with | zero=>omega | succ q=>simp[zaq] at hk; subst hk; simp)) fun hle => .inr ⟨w.heap.size,cap',_,E,by simp,by omega,by simpa using hcap,hcm' (by unfold maxLen; omega),heap_alloc w.drew _,by
          simp only[Array.size_append,List.size_toArray,size_zeroCells,zh4 (_E:=E) q5,hn.1,hno.1,q2,← Nat.add_mul]; congr 1; omega,
          both_ok (x:=cx C ((s.free n).push (nm d) (.arr false e (xs++ys))) (upd β (nm d) (.slice (some ⟨w.heap.size,0,none⟩) (xs.length+ys.length) cap')) (w.drew.alloc (.cells (newo.toArray++news.toArray++Builtin.zeroCells ez.cells (cap' - (xs.length+ys.length))) E)))
            (olds:=newo) (news:=news) (rest:=(Builtin.zeroCells ez.cells (cap' - (xs.length+ys.length))).toList) (by simp) (by rw[hno.1,q2]) (by rw[hn.1,q2])
            (fun j c hj=>by obtain ⟨u,hu',hr'⟩:=hnor j c hj; exact ⟨u,hu',hle.rd hr'⟩)
            (fun j c hj=>by obtain ⟨u,hu',hr'⟩:=hnr j c hj; exact ⟨u,hu',hle.rd hr'⟩)⟩
      exact zdX (zb8 (_ty:=o.type) ho hv rfl hr) (hK _ _ _ gp (zbT (a := .own _) (fun _ _ _ _=>upd_same ..) rfl))
end
end Go.Di
open Go.RowKit (Below)
namespace Go.Di
def zin (w:World) (β:Nat→Option Value) (old:Nat→Prop):Cx:=⟨w,fun _=>none,β,old⟩
def Cell.plain:Cell→Prop
  | .sl _ _ | .tok _=>False
  | _=>True
theorem Rd.plain {w w':World} {π π':Nat→Option Value} {v:Value} {c:Cell} {fp:List Nat} (h:Rd w π v c fp) (hc:c.plain):Rd w' π' v c []:=by
  cases h with
  | int k n=>exact .int k n
  | bool b=>exact .bool b
  | str s=>exact .str s
  | any v h=>exact .any v h
  | tok _ _ _ _ _ _=>exact hc.elim
  | emp a t cap=>exact hc.elim
  | sl b off len cap t xs _ _ _ _ _ _=>exact hc.elim
theorem ziO {x y:Cx} {v:Value} {c:Cell} (h:x.rd v c) (hc:c.plain):y.rd v c:=by
  obtain ⟨fp,h,_⟩:=h
  exact ⟨[],h.plain hc,by intro b hb; cases hb⟩
theorem Rd.bare {w w':World} {π π':Nat→Option Value} {v:Value} {c:Cell} {fp:List Nat} (h:Rd w π v c fp) (hc:∀ t xs,c ≠ .sl t xs) (ht:∀ i u,π i=some u→π' i=some u):Rd w' π' v c []:=by
  cases h with
  | int k n=>exact .int k n
  | bool b=>exact .bool b
  | str s=>exact .str s
  | any v h=>exact .any v h
  | tok a l c k h1 h2=>exact .tok a l c k (ht _ _ h1) (ht _ _ h2)
  | emp a t cap=>exact (hc t [] rfl).elim
  | sl b off len cap t xs _ _ _ _ _ _=>exact (hc t xs rfl).elim
theorem zLo {x y:Cx} {v:Value} {c:Cell} (h:x.rd v c) (hc:∀ t xs,c ≠ .sl t xs) (ht:∀ i u,zd1 x.β i=some u→zd1 y.β i=some u):y.rd v c:=by
  obtain ⟨fp,h,_⟩:=h
  exact ⟨[],h.bare hc ht,by intro b hb; cases hb⟩
theorem zEa {t:ST} (ht:t.deep=false) {xs:List t.El} {i:Nat} {c:Cell} (h:(flat t xs)[i]? = some c):∀ u ys,c ≠ .sl u ys:=by
  have hm:c∈flat t xs:=List.mem_of_getElem? h
  simp only[flat,List.mem_flatMap] at hm
  obtain ⟨x,_,hx⟩:=hm
  intro u ys he
  subst he
  cases t<;>simp[ST.deep] at ht<;>simp[ST.cells] at hx
theorem zng {x:Cx} {v:Value} {c:Cell} (h:x.rd v c) {old:Nat→Prop} (ho:∀ b,b < x.w.heap.size→¬ Top x.lk x.β b→x.av b→old b):(zin x.w x.β old).rd v c:=by
  obtain ⟨fp,h1,h2⟩:=h
  exact ⟨fp,h1,fun b hb=>⟨(h2 b hb).1,(by rintro ⟨n,e,u,q,_⟩; cases q),ho b (h2 b hb).1 (h2 b hb).2.1 (h2 b hb).2.2⟩⟩
section
variable {P:Program} {C:Bs} {w w':World} {s s':St} {X:Nat→Prop} {β β':Nat→Option Value} {a:Act} {o:Oper} {tm:Array Value}
  {t:TypeId} {x y:Operand} {i:TI} {K:Act→World→Prop} {Q:Exit→Act→World→Prop}
def A1.zic (n:Nat):A1→Prop
  | .own m=>m=n
  | .win m _ _=>m=n
  | .dp m=>m=n
  | .dc m _ _ _=>m=n
  | _=>False
theorem zB2 {x:Cx} {ys:List Int} {v:Value} (h:OwnI x ys v) {old:Nat→Prop} (ho:∀ k∈zaE v,old k):(zin x.w x.β old).rd v (.sl .int ys):=by
  rcases h with ⟨h0,ad,h1⟩ | ⟨g,cap,cur,T,h1,h2,h3,h4,h5,h6,h7⟩
  · subst h0; subst h1; exact ⟨[],.emp ad .int 0,by intro b hb; cases hb⟩
  · have hg:g∈zaE v:=by rw[h1]; cases cap with | zero=>omega | succ k=>simp[zaE]
    have hold:=ho g hg
    subst h1
    exact zhj (x:=zin x.w x.β old) (t := .int) h3 h5 (by rintro ⟨n,e,u,h1,_⟩; cases h1) hold fun i c hi=>by
      obtain ⟨u,hu,hr⟩:=h7 i c hi
      obtain ⟨n,rfl⟩:=zyw hi
      exact ⟨u,hu,ziO hr trivial⟩
theorem zMF {x:Cx} {u b:Value} {c:Cell} (h:zcB x u c b) {old:Nat→Prop} (ho:∀ k∈zaE b,old k):(zin x.w x.β old).rd u c :=
  zcB.rdx (x:=zin x.w x.β old) (h.go fun _ _=>rfl) fun k hk=>⟨(by rintro ⟨n,e,u,h1,_⟩; cases h1),ho k hk⟩
theorem zEp {x:Cx} {t:ST} {xs:List t.El} {v:Value} {vs:Array Value} (h:DeepOk x t xs (.tuple vs)) (h0:vs[0]? = some v) {old:Nat→Prop} (ho:∀ k∈zaq (.tuple vs),old k):(zin x.w x.β old).rd v (.sl t xs):=by
  obtain ⟨s,us,h1,h2,_,_,h4⟩:=h
  cases h1
  have hs:s=v:=by simpa using h0
  subst hs
  have ho':∀ u∈s :: us,∀ k∈zaE u,old k:=fun u hu k hk=>ho k (List.mem_flatMap.2 ⟨u,by simpa using hu,hk⟩)
  rcases h4 with ⟨k0,ad,k1⟩ | ⟨g,cap,cur,T,k1,k2,k3,k4,k5,k6,k7⟩
  · subst k0; subst k1; exact ⟨[],.emp ad t 0,by intro b hb; cases hb⟩
  · have hg:g∈zaE s:=by rw[k1]; cases cap with | zero=>omega | succ k=>simp[zaE]
    have hold:=ho' s (List.mem_cons_self ..) g hg
    subst k1
    exact zhj (x:=zin x.w x.β old) k3 k5 (by rintro ⟨n,e,u,h1,_⟩; cases h1) hold fun i c hi=>by
      obtain ⟨u,b,q1,q2,q3⟩:=k7 i c hi
      exact ⟨u,q1,zMF q3 (ho' b (List.mem_cons_of_mem _ (List.mem_of_getElem? q2)))⟩
theorem znY {x:Cx} {t:ST} {xs:List t.El} {v:Value} {vs:Array Value} (h:DeepOk x t xs (.tuple vs)) {i off:Nat} {e:t.El} {ys:List Int} (he:xs[i]? = some e) (hoff:off < t.size) (hc:(t.cells e)[off]? = some (.sl .int ys))
    (hv:vs[1+i * t.size+off]? = some v):OwnI x ys v:=by
  obtain ⟨s,us,h1,h2,_,_,h4⟩:=h
  cases h1
  have hf:(flat t xs)[i * t.size+off]? = some (.sl .int ys):=(flat_get t xs i e off he hoff).trans hc
  have hv':us[i * t.size+off]? = some v:=by
    have:1+i * t.size+off=(i * t.size+off)+1:=by omega
    rw[this] at hv
    simpa using hv
  rcases h4 with ⟨k0,_⟩ | ⟨g,cap,cur,T,k1,k2,k3,k4,k5,k6,k7⟩
  · subst k0; cases he
  · obtain ⟨u,b,q1,q2,q3⟩:=k7 _ _ hf
    rw[hv'] at q2; cases q2
    have h1:v=u:=q3.1
    rw[h1]; exact q3.2
theorem zqa {x:Cx} {t:ST} {xs:List t.El} {v:Value} {vs:Array Value} (h:DeepF x t xs (.tuple vs)) (h0:vs[0]? = some v):x.rd v (.sl t xs):=by
  obtain ⟨s,us,h1,_,h4⟩:=h
  cases h1
  have hs:s=v:=by simpa using h0
  subst hs
  rcases h4 with ⟨k0,ad,k1⟩ | ⟨g,cap,k1,k2,k3,k4⟩
  · subst k0; subst k1; exact ⟨[],.emp ad t 0,by intro b hb; cases hb⟩
  · subst k1
    have hch:∀ i:Nat,∃ p:Value × List Nat,∀ c:Cell,(flat t xs)[i]? = some c→x.w.cell? ⟨g,0+i,none⟩=some p.1∧Rd x.w (zd1 x.β) p.1 c p.2∧x.fine p.2:=by
      intro i
      cases hi:(flat t xs)[i]? with
      | none=>exact ⟨(undef,[]),fun c hc=>by cases hc⟩
      | some c =>
        obtain ⟨u,_,hu,_,⟨fp,h1,h2⟩,_⟩:=k4 i c hi
        exact ⟨(u,fp),fun c' hc'=>by cases hc'; exact ⟨hu,h1,h2⟩⟩
    have hex:∃ f:Nat→Value × List Nat,∀ (i:Nat) (c:Cell),(flat t xs)[i]? = some c→x.w.cell? ⟨g,0+i,none⟩=some (f i).1∧Rd x.w (zd1 x.β) (f i).1 c (f i).2∧x.fine (f i).2 :=
      ⟨fun i=>Classical.choose (hch i),fun i=>Classical.choose_spec (hch i)⟩
    obtain ⟨f,hF⟩:=hex
    refine ⟨_,.sl g 0 xs.length cap t xs (fun i=>(f i).1) (fun i=>(f i).2) rfl k2 (fun i c hi=>(hF i c hi).1) (fun i c hi=>(hF i c hi).2.1),?_⟩
    intro b hb
    rcases List.mem_cons.1 hb with rfl | hb
    · exact k3 b (List.mem_cons_self ..)
    · obtain ⟨i,hi,hb⟩:=List.mem_flatMap.1 hb
      exact (hF i _ (List.getElem?_eq_getElem (List.mem_range.1 hi))).2.2 b hb
theorem zo5 {x:Cx} {t:ST} {xs:List t.El} {v:Value} {vs:Array Value} (h:DeepF x t xs (.tuple vs)) {i off:Nat} {e:t.El} {ys:List Int} (he:xs[i]? = some e) (hoff:off < t.size) (hc:(t.cells e)[off]? = some (.sl .int ys))
    (hv:vs[1+i * t.size+off]? = some v):x.rd v (.sl .int ys):=by
  obtain ⟨s,us,h1,_,h4⟩:=h
  cases h1
  have hf:(flat t xs)[i * t.size+off]? = some (.sl .int ys):=(flat_get t xs i e off he hoff).trans hc
  have hv':us[i * t.size+off]? = some v:=by
    have:1+i * t.size+off=(i * t.size+off)+1:=by omega
    rw[this] at hv
    simpa using hv
  rcases h4 with ⟨k0,_⟩ | ⟨g,cap,k1,k2,k3,k4⟩
  · subst k0; cases he
  · obtain ⟨u,b,q1,q2,q3,q4⟩:=k4 _ _ hf
    rw[hv'] at q2; cases q2
    rw[q4.1 ys rfl]; exact q3
theorem zQ1 {es:List (Nat × Ent)} {n i off:Nat} {ys:List Int} {t:ST} {y:List t.El} (h:A1.as es (.sl t) (.dc n i off ys)=some y):∃ fr u xs,look n es=some (.deep fr u xs)∧u ≠ .rats∧ST.cast .int t ys=some y:=by
  have h':(match look n es with | some (.deep _ .rats _)=>none | some (.deep _ _ _)=>ST.cast .int t ys | _=>none)=some y:=h
  cases hl:look n es with
  | none=>rw[hl] at h'; cases h'
  | some f =>
    cases f with
    | box l=>rw[hl] at h'; cases h'
    | arr _ _ _=>rw[hl] at h'; cases h'
    | pool _=>rw[hl] at h'; cases h'
    | deep fr u xs =>
      rw[hl] at h'
      cases u with
      | rats=>cases h'
      | _=>exact ⟨fr,_,xs,rfl,(by intro e; cases e),h'⟩
theorem as_arg (g:Gam C s X β tm w) {b:A1} {c:CK} {y:c.ty} {v:Value} (hb:A1Ok (cx C s β w) b v) (h:b.as s.ents c=some y) {old:Nat→Prop}
    (ho:∀ b,b < w.heap.size→¬ Top (cx C s β w).lk β b→(cx C s β w).av b→old b)
    (hown:∀ n fr t xs u,b.zic n→look n s.ents=some (.arr fr t xs)→β n=some u→fr=false→∀ k∈zaq u,old k)
    (hdeep:∀ n t xs u,b.zic n→look n s.ents=some (.deep false t xs)→β n=some u→∀ k∈zaq u,old k) :
    (zin w β old).rd v (c.cell y):=by
  have arr : ∀ n fr t xs u,b.zic n→look n s.ents=some (.arr fr t xs)→β n=some u→(zin w β old).rd u (.sl t xs):=by
    intro n fr t xs u hb hl hu
    have he:=g.ents n _ _ hl hu
    cases fr with
    | true=>exact zng (x:=cx C s β w) he ho
    | false =>
      rcases he with ⟨h0,ad,h1⟩ | ⟨gb,cap,cur,T,h1,h2,h3,h4,h5,h6,h7⟩
      · subst h0; subst h1; exact ⟨[],.emp ad t 0,by intro b hb; cases hb⟩
      · have hg:gb∈zaq u:=by rw[h1]; cases cap with | zero=>omega | succ k=>simp[zaq]
        have hold:=hown n false t xs u hb hl hu rfl gb hg
        subst h1
        exact zhj (x:=zin w β old) h3 h5 (by rintro ⟨n,e,u,h1,_⟩; cases h1) hold fun i c hi=>by
          obtain ⟨u,hu,hr⟩:=h7 i c hi; exact ⟨u,hu,zng (x:=cx C s β w) hr ho⟩
  cases b with
  | bot=>cases c<;>cases h
  | lp _ _=>cases c<;>cases h
  | sp _ _=>cases c<;>cases h
  | fn _ _=>cases c<;>cases h
  | oe _ _ _=>cases c<;>cases h
  | de _ _ _=>cases c<;>cases h
  | dp n =>
    cases c with
    | sl t =>
      obtain ⟨fr,xs,hl,rfl⟩:∃ fr xs,look n s.ents=some (.deep fr t xs)∧xs=y:=by
        have h':(match look n s.ents with | some (.deep _ u xs)=>ST.cast u t xs | _=>none)=some y:=h
        cases hl:look n s.ents with
        | none=>rw[hl] at h'; cases h'
        | some f =>
          cases f with
          | box l=>rw[hl] at h'; cases h'
          | arr _ _ _=>rw[hl] at h'; cases h'
          | pool _=>rw[hl] at h'; cases h'
          | deep fr u xs=>rw[hl] at h'; obtain ⟨rfl,rfl⟩:=cast_eq h'; exact ⟨fr,_,rfl,rfl⟩
      obtain ⟨vs,k1,k2⟩:=hb (by simp[cx,hl])
      cases fr with
      | false=>exact zEp (x:=cx C s β w) (g.ents n _ _ hl k1) k2 (hdeep n t xs _ rfl hl k1)
      | true=>exact zng (x:=cx C s β w) (zqa (g.ents n _ _ hl k1) k2) ho
    | int k=>cases h
    | bool=>cases h
    | str=>cases h
    | nat=>cases h
    | tok=>cases h
    | any=>cases h
  | dc n i off ys =>
    cases c with
    | sl t =>
      obtain ⟨fr,u,xs,hl,hur,h'⟩:=zQ1 h
      obtain ⟨rfl,rfl⟩:=cast_eq h'
      obtain ⟨hoff,e,q1,⟨_,q2,vs,k1,k2⟩ | ⟨hr,_⟩⟩:=hb fr u xs hl
      case inr=>exact absurd hr hur
      have hv:v∈vs.toList:=by
        have:=List.mem_of_getElem? (l:=vs.toList) (i:=1+i * u.size+off) (a:=v) (by simpa using k2)
        exact this
      cases fr with
      | true=>exact zng (x:=cx C s β w) (zo5 (g.ents n _ _ hl k1) q1 hoff q2 k2) ho
      | false=>exact zB2 (x:=cx C s β w) (znY (g.ents n _ _ hl k1) q1 hoff q2 k2) fun k hk=>hdeep n u xs _ rfl hl k1 k (List.mem_flatMap.2 ⟨v,hv,hk⟩)
    | int k=>cases h
    | bool=>cases h
    | str=>cases h
    | nat=>cases h
    | tok=>cases h
    | any=>cases h
  | d d =>
    have hd:d=c.cell y:=zfw (by cases c<;>exact h)
    subst hd
    exact zng (x:=cx C s β w) hb ho
  | mt =>
    cases c with
    | sl t =>
      obtain ⟨ad,rfl⟩:=hb
      have h':some ([]:List t.El)=some y:=h
      cases h'
      exact ⟨[],.emp ad t 0,by intro b hb; cases hb⟩
    | int k=>cases h
    | bool=>cases h
    | str=>cases h
    | nat=>cases h
    | tok=>cases h
    | any=>cases h
  | own n =>
    cases c with
    | sl t =>
      obtain ⟨fr,hl⟩:=zyA (ys:=y) h
      exact arr n fr t y v rfl hl (hb fr t y hl)
    | int k=>cases h
    | bool=>cases h
    | str=>cases h
    | nat=>cases h
    | tok=>cases h
    | any=>cases h
  | win n lo len =>
    cases c with
    | sl t =>
      obtain ⟨fr,xs,hl,rfl⟩:=zFg (ys:=y) h
      obtain ⟨hfit,ad,m,cap,hβ,hlo,rfl⟩:=hb fr t xs hl
      have hr:=arr n fr t xs _ rfl hl hβ
      obtain ⟨ad',cap',e1,e2⟩:=znf hr
      cases e1
      have:=rd_cut hr (lo:=lo) (hi:=lo+len) (by omega) hfit e2
      rw[Nat.add_sub_cancel_left] at this
      exact this
    | int k=>cases h
    | bool=>cases h
    | str=>cases h
    | nat=>cases h
    | tok=>cases h
    | any=>cases h
theorem zlo {es:List (Nat × Ent)} {c:CK} {cs:List CK} {a:A1} {l:List A1} {x:Tys (c :: cs)} (h:asTys es (c :: cs) (a :: l)=some x):a.as es c=some x.1∧asTys es cs l=some x.2:=by
  have h':(match a.as es c with
    | some x=>match asTys es cs l with
      | some y=>some ((x,y):Tys (c :: cs))
      | none=>none
    | none=>none)=some x:=h
  cases h1:a.as es c with
  | none=>rw[h1] at h'; cases h'
  | some x1 =>
    rw[h1] at h'
    cases h2:asTys es cs l with
    | none=>rw[h2] at h'; cases h'
    | some y1=>rw[h2] at h'; cases h'; exact ⟨rfl,rfl⟩
theorem zv2 {x:Cx} {l:List A1} {v:Value} (h:zck x l [v]):∃ a,l=[a]∧A1Ok x a v∧v.oneCell'=true:=by
  match l,h with
  | [a],⟨h1,h2,_⟩=>exact ⟨a,rfl,h1,h2⟩
  | [],h=>exact h.elim
  | _ :: _ :: _,⟨_,_,h⟩=>exact h.elim
end
end Go.Di
open Go.RowKit (Below)
namespace Go.Di
theorem znh {es:List (Nat × Ent)} (h:pooled es=true):∃ n,look PN es=some (.pool n):=by
  unfold pooled at h
  split at h
  · exact ⟨_,by assumption⟩
  · cases h
theorem zAX {x:Cx} {n:Nat} {v u:Value} {k:Tk} (hp:zir x n v) (hβ:x.β PN=some v) (h:x.rd u (.tok k)):OwnI x k.xs u∧∀ b∈zaE u,b∈zaq v:=by
  obtain ⟨us,rfl,h2,_,h4⟩:=hp
  obtain ⟨fp,hr,_⟩:=h
  have tk:∀ i,zd1 x.β i=us[i]? := fun i=>by simp[zd1,hβ]
  cases hr with
  | tok a len cap _ h1 h3 =>
    rw[tk] at h1 h3
    have hlt:=(List.getElem?_eq_some_iff.1 h1).1
    obtain ⟨u,ys,k1,k2,k3⟩:=h4 k.id (by omega)
    rw[h1] at k1; cases k1
    rw[h3] at k2
    have:=zGY (Option.some.inj k2)
    subst this
    exact ⟨k3,fun b hb=>List.mem_flatMap.2 ⟨_,by simpa using List.mem_of_getElem? h1,hb⟩⟩
theorem zMH {α β:Type} (f:α→β) (xs:List α) (lo hi:Nat):cut (xs.map f) lo hi=(cut xs lo hi).map f:=by simp[cut,List.map_take,List.map_drop]
def erL (xs:List ST.trat.El):List ST.rat.El:=List.map TRt.er xs
theorem zfJ (xs:List ST.trat.El):(erL xs).length=xs.length:=List.length_map (as:=xs) TRt.er
theorem zMG (xs:List ST.trat.El) (lo hi:Nat):cut (erL xs) lo hi=erL (cut xs lo hi):=zMH TRt.er xs lo hi
theorem zvn:∀ (xs:List ST.trat.El) {i:Nat} {c:Cell},(flat .rat (erL xs))[i]? = some c→∃ c0,(flat .trat xs)[i]? = some c0 ∧
    ((∃ b,c0 = .bool b∧c = .bool b)∨∃ k:Tk,c0 = .tok k∧c = .sl .int k.xs)
  | [],i,c,h=>by
    have h':([]:List Cell)[i]? = some c:=h
    simp at h'
  | x :: r,i,c,h=>by
    have h':(Cell.bool (TRt.neg x) :: .sl .int (TRt.mag x).xs :: .sl .int (TRt.den x).xs :: flat .rat (erL r))[i]? = some c:=h
    show ∃ c0,(Cell.bool (TRt.neg x) :: .tok (TRt.mag x) :: .tok (TRt.den x) :: flat .trat r)[i]? = some c0∧_
    rcases i with _ | _ | _ | i
    · simp at h'; subst h'; exact ⟨_,rfl,.inl ⟨_,rfl,rfl⟩⟩
    · simp at h'; subst h'; exact ⟨_,rfl,.inr ⟨_,rfl,rfl⟩⟩
    · simp at h'; subst h'; exact ⟨_,rfl,.inr ⟨_,rfl,rfl⟩⟩
    · simpa using zvn r (i:=i) (by simpa using h')
section
variable {C:Bs} {w:World} {s:St} {X:Nat→Prop} {β:Nat→Option Value} {tm:Array Value}
theorem zKW (g:Gam C s X β tm w) {b:A1} {c:CK} {y:c.ty} {v:Value} (hb:A1Ok (cx C s β w) b v) (h:b.via s.ents c=some y) (hpl:pooled s.ents=true) {old:Nat→Prop}
    (hown:∀ n t xs u,b.zic n→look n s.ents=some (.arr false t xs)→β n=some u→∀ k∈zaq u,old k)
    (hpool:∀ n u,look PN s.ents=some (.pool n)→β PN=some u→∀ k∈zaq u,old k) :
    (zin w β old).rd v (c.cell y):=by
  obtain ⟨n0,hn0⟩:=znh hpl
  obtain ⟨u0,hu0⟩:∃ u,β PN=some u:=by
    have:=g.bs PN _ hn0
    cases hb:β PN with
    | none=>rw[hb] at this; cases this
    | some u=>exact ⟨u,rfl⟩
  have hpo:zir (cx C s β w) n0 u0:=g.ents PN _ _ hn0 hu0
  have tok:∀ u k,(cx C s β w).rd u (.tok k)→(zin w β old).rd u (.sl .int k.xs):=fun u k hr=>by
    obtain ⟨k1,k2⟩:=zAX (x:=cx C s β w) hpo hu0 hr
    exact zB2 (x:=cx C s β w) k1 fun b hb=>hpool n0 u0 hn0 hu0 b (k2 b hb)
  have arr:∀ n (xs:List ST.trat.El) u,b.zic n→look n s.ents=some (.arr false .trat xs)→β n=some u→(zin w β old).rd u (.sl .rat (erL xs)):=by
    intro n xs u hb hl hu
    rcases g.ents n _ _ hl hu with ⟨h0,ad,h1⟩ | ⟨gb,cap,cur,T,h1,h2,h3,h4,h5,h6,h7⟩
    · subst h0; subst h1; exact ⟨[],.emp ad .rat 0,by intro b hb; cases hb⟩
    · have hg:gb∈zaq u:=by rw[h1]; cases cap with | zero=>omega | succ k=>simp[zaq]
      have hold:=hown n .trat xs u hb hl hu gb hg
      subst h1
      have:=zhj (x:=zin w β old) (t := .rat) (xs:=erL xs) (by rw[zfJ]; exact h3) h5 (by rintro ⟨n,e,u,h1,_⟩; cases h1) hold fun i c hi=>by
        obtain ⟨c0,k1,k2⟩:=zvn xs hi
        obtain ⟨u,hu,hr⟩:=h7 i c0 k1
        rcases k2 with ⟨b,rfl,rfl⟩ | ⟨k,rfl,rfl⟩
        · exact ⟨u,hu,ziO hr trivial⟩
        · exact ⟨u,hu,tok u k hr⟩
      rw[zfJ] at this
      exact this
  unfold A1.via at h
  split at h
  · cases h; exact tok _ _ hb
  · split at h
    · rename_i hl; cases h
      exact arr _ _ v rfl hl (hb false .trat _ hl)
    · cases h
  · split at h
    · rename_i n lo len _ xs hl; cases h
      obtain ⟨hfit,ad,m,cap,hβ,hlo,rfl⟩:=hb false .trat xs hl
      have hr:=arr n xs _ rfl hl hβ
      obtain ⟨ad',cap',e1,e2⟩:=znf hr
      rw[zfJ] at e1 e2
      cases e1
      have:=rd_cut (xs:=erL xs) hr (lo:=lo) (hi:=lo+len) (by omega) hfit e2
      rw[Nat.add_sub_cancel_left,zMG] at this
      exact this
    · cases h
  · cases h
end
end Go.Di
open Go.RowKit (Below)
namespace Go.Di
def NoX:Nat→Prop:=fun _=>False
inductive W1 (fz:Bool) (s s':St) (src:Nat→Nat):A1→A1→Prop
  | bot (a:A1):W1 fz s s' src a .bot
  | data (a:A1) (c:CK) (y:c.ty) (h:a.as s.ents c=some y) (hm:∀ m,a.zic m→∀ n e,look n s'.ents=some e→e.mut=true→src n≠m)
      (hf:fz=true→∀ m,a.zic m→(∀ t xs,look m s.ents≠some (.arr false t xs))∧∀ t xs,look m s.ents≠some (.deep false t xs)):W1 fz s s' src a (.d (c.cell y))
  | via (a:A1) (c:CK) (y:c.ty) (h:a.via s.ents c=some y) (hp:pooled s.ents=true) (hm:∀ m,a.zic m∨m=PN→∀ n e,look n s'.ents=some e→e.mut=true→src n≠m) (hf:fz=false):W1 fz s s' src a (.d (c.cell y))
  | own (n:Nat) (h:(look (src n) s.ents).isSome):W1 fz s s' src (.own (src n)) (.own n)
  | lp (n off:Nat) (h:(look (src n) s.ents).isSome):W1 fz s s' src (.lp (src n) off) (.lp n off)
  | win (n lo k:Nat) (h:(look (src n) s.ents).isSome):W1 fz s s' src (.win (src n) lo k) (.win n lo k)
  | dp (n:Nat) (h:(look (src n) s.ents).isSome):W1 fz s s' src (.dp (src n)) (.dp n)
  | sp (cs:List Cell) (off:Nat):W1 fz s s' src (.sp cs off) (.sp cs off)
  | fn (f:Nat) (caps:List (List Cell)):W1 fz s s' src (.fn f caps) (.fn f caps)
def WL (fz:Bool) (s s':St) (src:Nat→Nat):List A1→List A1→Prop
  | [],[]=>True
  | a :: l,b :: m=>W1 fz s s' src a b∧WL fz s s' src l m
  | _,_=>False
def WAV (fz:Bool) (s s':St) (src:Nat→Nat) (a b:AV):Prop :=
  b = .bot∨∃ g l m,a = .v g l∧b = .v g m∧WL fz s s' src l m
structure Wk (fz:Bool) (s s':St) (src:Nat→Nat):Prop where
  len:s'.env.length=s.env.length
  env:∀ (t:Nat) b,s'.env[t]? = some b→∃ a,s.env[t]? = some a∧WAV fz s s' src a b
  ents:∀ n e',look n s'.ents=some e'→∃ e,look (src n) s.ents=some e ∧
    ((∃ l l',e = .box l∧e' = .box l'∧WL fz s s' src l l')∨(∃ fr t xs,e = .arr fr t xs∧e' = .arr fr t xs)∨(∃ t xs,e = .deep false t xs∧e' = .deep false t xs)∨∃ k,e = .pool k∧e' = .pool k)
  inj:∀ n m e f,look n s'.ents=some e→look m s'.ents=some f→e.mut=true→f.mut=true→src n=src m→n=m
  pn:src PN=PN
section
variable {P:Program} {C:Bs} {w w':World} {s s':St} {X:Nat→Prop} {bt:Nat→Option Value} {tm:Array Value} {src:Nat→Nat} {fz:Bool} {Q:Nat→Prop}
theorem Wk.mut (h:Wk fz s s' src) {n:Nat} {e':Ent} (hl:look n s'.ents=some e') (hm:e'.mut=true):∃ e,look (src n) s.ents=some e∧e.mut=true:=by
  obtain ⟨e,h1,h2⟩:=h.ents n e' hl
  refine ⟨e,h1,?_⟩
  rcases h2 with ⟨l,l',rfl,rfl,_⟩ | ⟨fr,t,xs,rfl,rfl⟩ | ⟨t,xs,rfl,rfl⟩ | ⟨k,rfl,rfl⟩
  · rfl
  · exact hm
  · rfl
  · rfl
theorem Wk.top (h:Wk fz s s' src) {b:Nat} (ht:Top (fun n=>look n s'.ents) (fun n=>bt (src n)) b):Top (fun n=>look n s.ents) bt b:=by
  obtain ⟨n,e',v,h1,h2,h3,h4⟩:=ht
  obtain ⟨e,k1,k2⟩:=h.mut h1 h2
  exact ⟨src n,e,v,k1,k2,h3,h4⟩
def zKU (s':St) (src:Nat→Nat) (bt:Nat→Option Value) (w:World) (Q:Nat→Prop):Cx:=⟨w,fun n=>look n s'.ents,fun n=>bt (src n),Q⟩
structure QOk (fz:Bool) (C:Bs) (s:St) (bt:Nat→Option Value) (w:World) (Q:Nat→Prop):Prop where
  rest:∀ b,b < w.heap.size→¬ Top (fun n=>look n s.ents) bt b→(¬ C.keep b∨C.old b)→Q b
  top:fz=false→∀ b,Top (fun n=>look n s.ents) bt b→Q b
theorem Wk.tk (h:Wk fz s s' src):zd1 (fun n=>bt (src n))=zd1 bt:=by funext i; simp only[zd1,h.pn]
theorem Wk.rd (h:Wk fz s s' src) (hq:QOk fz C s bt w Q) {v:Value} {c:Cell} (hr:(cx C s bt w).rd v c):(zKU s' src bt w Q).rd v c:=by
  obtain ⟨fp,h1,h2⟩:=hr
  exact ⟨fp,h1.more fun i v hv=>(congrFun h.tk i).trans hv,fun b hb=>⟨(h2 b hb).1,fun ht=>(h2 b hb).2.1 (h.top ht),hq.rest b (h2 b hb).1 (h2 b hb).2.1 (h2 b hb).2.2⟩⟩
theorem Wk.za7 (h:Wk fz s s' src) (hq:QOk fz C s bt w Q) {b off:Nat} {cs:List Cell} (hr:(cx C s bt w).za7 b off cs):(zKU s' src bt w Q).za7 b off cs:=by
  refine ⟨hr.1.imp id fun hf k hk=>⟨(hf k hk).1,fun ht=>(hf k hk).2.1 (h.top ht),hq.rest k (hf k hk).1 (hf k hk).2.1 (hf k hk).2.2⟩,fun i c hc=>?_⟩
  obtain ⟨v,hv,hd⟩:=hr.2 i c hc
  exact ⟨v,hv,h.rd hq hd⟩
theorem Wk.cell (h:Wk fz s s' src) (g:Gam C s X bt tm w) (hq:QOk fz C s bt w Q) {a b:A1} (hw:W1 fz s s' src a b) {v:Value} (ha:A1Ok (cx C s bt w) a v):A1Ok (zKU s' src bt w Q) b v:=by
  cases hw with
  | bot=>trivial
  | data _ c y hy hm hf =>
    have hd:=as_arg g ha hy (old:=fun b=>b < w.heap.size∧¬ Top (fun n=>look n s'.ents) (fun n=>bt (src n)) b∧Q b)
      (fun b h1 h2 h3=>⟨h1,fun ht=>h2 (h.top ht),hq.rest b h1 h2 h3⟩)
      (fun n fr t xs u hn hl hu hfr k hk=>by
        subst hfr
        have hT:Top (fun n=>look n s.ents) bt k:=⟨n,_,u,hl,rfl,hu,hk⟩
        have hfz:fz=false:=by
          cases fz with
          | false=>rfl
          | true=>exact absurd hl ((hf rfl n hn).1 t xs)
        refine ⟨(g.fresh k hT).2,?_,hq.top hfz k hT⟩
        rintro ⟨m,e',u',k1,k2,k3,k4⟩
        obtain ⟨e,k5,k6⟩:=h.mut k1 k2
        exact hm n hn m e' k1 k2 (g.uniq (src m) n e (.arr false t xs) u' u k k5 hl k6 rfl k3 hu k4 hk))
      (fun n t xs u hn hl hu k hk=>by
        have hT:Top (fun n=>look n s.ents) bt k:=⟨n,_,u,hl,rfl,hu,hk⟩
        have hfz:fz=false:=by
          cases fz with
          | false=>rfl
          | true=>exact absurd hl ((hf rfl n hn).2 t xs)
        refine ⟨(g.fresh k hT).2,?_,hq.top hfz k hT⟩
        rintro ⟨m,e',u',k1,k2,k3,k4⟩
        obtain ⟨e,k5,k6⟩:=h.mut k1 k2
        exact hm n hn m e' k1 k2 (g.uniq (src m) n e (.deep false t xs) u' u k k5 hl k6 rfl k3 hu k4 hk))
    obtain ⟨fp,h1,h2⟩:=hd
    exact ⟨fp,h1.more fun i v hv=>(congrFun h.tk i).trans hv,fun b hb=>⟨(h2 b hb).1,(h2 b hb).2.2.2.1,(h2 b hb).2.2.2.2⟩⟩
  | via _ c y hy hp hm hf =>
    have hd:=zKW g ha hy hp (old:=fun b=>b < w.heap.size∧¬ Top (fun n=>look n s'.ents) (fun n=>bt (src n)) b∧Q b)
      (fun n t xs u hn hl hu k hk=>by
        have hT:Top (fun n=>look n s.ents) bt k:=⟨n,_,u,hl,rfl,hu,hk⟩
        refine ⟨(g.fresh k hT).2,?_,hq.top hf k hT⟩
        rintro ⟨m,e',u',k1,k2,k3,k4⟩
        obtain ⟨e,k5,k6⟩:=h.mut k1 k2
        exact hm n (.inl hn) m e' k1 k2 (g.uniq (src m) n e (.arr false t xs) u' u k k5 hl k6 rfl k3 hu k4 hk))
      (fun n u hl hu k hk=>by
        have hT:Top (fun n=>look n s.ents) bt k:=⟨PN,_,u,hl,rfl,hu,hk⟩
        refine ⟨(g.fresh k hT).2,?_,hq.top hf k hT⟩
        rintro ⟨m,e',u',k1,k2,k3,k4⟩
        obtain ⟨e,k5,k6⟩:=h.mut k1 k2
        exact hm PN (.inr rfl) m e' k1 k2 (g.uniq (src m) PN e (.pool n) u' u k k5 hl k6 rfl k3 hu k4 hk))
    obtain ⟨fp,h1,h2⟩:=hd
    exact ⟨fp,h1.more fun i v hv=>(congrFun h.tk i).trans hv,fun b hb=>⟨(h2 b hb).1,(h2 b hb).2.2.2.1,(h2 b hb).2.2.2.2⟩⟩
  | own n hn =>
    intro fr t xs hl
    obtain ⟨e,h1,h2⟩:=h.ents n _ hl
    rcases h2 with ⟨l,l',rfl,h2,_⟩ | ⟨fr',t',xs',rfl,h2⟩ | ⟨t',xs',rfl,h2⟩ | ⟨k,rfl,h2⟩
    · cases h2
    · cases h2; exact ha fr t xs h1
    · cases h2
    · cases h2
  | dp n hn=>exact fun _=>ha hn
  | sp cs off =>
    obtain ⟨b,o,h1,h2⟩:=ha
    exact ⟨b,o,h1,h.za7 hq h2⟩
  | fn f caps =>
    obtain ⟨vs,h1,h2,h3⟩:=ha
    refine ⟨vs,h1,h2,fun i cs hc=>?_⟩
    obtain ⟨b,o,h4,h5⟩:=h3 i cs hc
    exact ⟨b,o,h4,h.za7 hq h5⟩
  | lp n off hn=>exact fun _=>ha hn
  | win n lo k hn =>
    intro fr t xs hl
    obtain ⟨e,h1,h2⟩:=h.ents n _ hl
    rcases h2 with ⟨l,l',rfl,h2,_⟩ | ⟨fr',t',xs',rfl,h2⟩ | ⟨t',xs',rfl,h2⟩ | ⟨k,rfl,h2⟩
    · cases h2
    · cases h2; exact ha fr t xs h1
    · cases h2
    · cases h2
theorem Wk.cells (h:Wk fz s s' src) (g:Gam C s X bt tm w) (hq:QOk fz C s bt w Q):∀ {l m:List A1} {vs:List Value},WL fz s s' src l m→zck (cx C s bt w) l vs→zck (zKU s' src bt w Q) m vs
  | [],[],[],_,_=>trivial
  | _a :: _l,_b :: _m,_v :: _vs,⟨h1,h2⟩,⟨k1,k2,k3⟩=>⟨h.cell g hq h1 k1,k2,h.cells g hq h2 k3⟩
  | [],_ :: _,_,h,_=>h.elim
  | _ :: _,[],_,h,_=>h.elim
  | [],[],_ :: _,_,h=>h.elim
  | _ :: _,_ :: _,[],_,h=>h.elim
theorem Wk.av (h:Wk fz s s' src) (g:Gam C s X bt tm w) (hq:QOk fz C s bt w Q) {a b:AV} (hw:WAV fz s s' src a b) {v:Value} (ha:zaR (cx C s bt w) a v):zaR (zKU s' src bt w Q) b v:=by
  rcases hw with rfl | ⟨gg,l,m,rfl,rfl,hl⟩
  · exact zk6
  · cases gg with
    | true=>obtain ⟨vs,h1,h2⟩:=ha; exact ⟨vs,h1,h.cells g hq hl h2⟩
    | false =>
      obtain ⟨a,h1,h2,h3⟩:=ha
      subst h1
      match m,hl with
      | [b],⟨hb,_⟩ =>
        refine ⟨b,rfl,h.cell g hq hb h2,?_⟩
        rcases h3 with rfl | h3
        · cases hb with
          | bot=>exact .inl rfl
          | data _ c y hy hm _=>cases c<;>cases hy
          | via _ c y hy _ _ _=>cases c<;>first | cases hy; done | (rename_i t; cases t<;>cases hy)
        · exact .inr h3
      | _ :: _ :: _,⟨_,hb⟩=>exact hb.elim
theorem Wk.zOH (h:Wk fz s s' src) (g:Gam C s X bt tm w) (hq:QOk fz C s bt w Q) {n:Nat} {e':Ent} {v:Value} (hl:look n s'.ents=some e') (hv:bt (src n)=some v):EntOk (zKU s' src bt w Q) e' v:=by
  obtain ⟨e,h1,h2⟩:=h.ents n e' hl
  have he:=g.ents (src n) e v h1 hv
  rcases h2 with ⟨l,l',rfl,rfl,hw⟩ | ⟨fr,t,xs,rfl,rfl⟩ | ⟨t,xs,rfl,rfl⟩ | ⟨k,rfl,rfl⟩
  rotate_left 2
  · exact DeepOk.go he fun _ _=>rfl
  · exact zir.go he fun _ _=>rfl
  · obtain ⟨b,vs,T,k1,k2,k3⟩:=he
    exact ⟨b,vs,T,k1,k2,h.cells g hq hw k3⟩
  · cases fr with
    | true=>exact h.rd hq he
    | false =>
      rcases he with h0 | ⟨gb,cap,cur,T,k1,k2,k3,k4,k5,k6,k7⟩
      · exact .inl h0
      · exact .inr ⟨gb,cap,cur,T,k1,k2,k3,k4,k5,k6,fun i c hc=>by obtain ⟨u,q1,q2⟩:=k7 i c hc; exact ⟨u,q1,h.rd hq q2⟩⟩
theorem Wk.uniq (h:Wk fz s s' src) (g:Gam C s X bt tm w):∀ n m e f u v b,look n s'.ents=some e→look m s'.ents=some f→e.mut=true→f.mut=true→bt (src n)=some u→bt (src m)=some v→b∈zaq u→b∈zaq v→n=m:=by
  intro n m e f u v b h1 h2 h3 h4 h5 h6 h7 h8
  obtain ⟨e1,q1,q2⟩:=h.mut h1 h3
  obtain ⟨e2,q3,q4⟩:=h.mut h2 h4
  exact h.inj n m e f h1 h2 h3 h4 (g.uniq (src n) (src m) e1 e2 u v b q1 q3 q2 q4 h5 h6 h7 h8)
theorem Gam.wk (g:Gam C s NoX bt tm w) (h:Wk fz s s' src) (hp:∀ n e,look n s'.ents=some e→n % 64=63→src n=n):Gam C s' NoX (fun n=>bt (src n)) tm w:=by
  have hq:QOk fz C s bt w (fun b=>¬ C.keep b∨C.old b):=⟨fun _ _ _ h=>h,fun _ b hb => .inl (g.fresh b hb).1⟩
  refine ⟨h.len.trans g.len,fun t b hx hb=>?_,fun n e' v hl hv=>h.zOH g hq hl hv,h.uniq g,fun b hb=>g.fresh b (h.top hb),g.kb,g.below,fun n v hc hl=>?_,g.np,fun n e he=>?_,g.fx,fun π hπ=>⟨h.tk.trans (g.tk π hπ).1,?_⟩⟩
  · obtain ⟨a,h1,h2⟩:=h.env t b hb
    exact h.av g hq h2 (g.env t a hx h1)
  · cases he:look n s'.ents with
    | none=>rw[he] at hl; cases hl
    | some e =>
      have hs:=hp n e he (g.np n (by rw[hc]; rfl)).1
      show bt (src n)=some v
      rw[hs]
      obtain ⟨e0,h1,_⟩:=h.ents n e he
      rw[hs] at h1
      exact g.pin n v hc (by rw[h1]; rfl)
  · obtain ⟨e0,h1,_⟩:=h.ents n e he
    exact g.bs (src n) e0 h1
  · cases he:look PN s'.ents with
    | none=>rfl
    | some e =>
      obtain ⟨e0,h1,_⟩:=h.ents PN e he
      rw[h.pn,(g.tk π hπ).2] at h1; cases h1
end
end Go.Di
open Go.RowKit (Below)
namespace Go.Di
theorem zgB:∀ (cs ds:List CK) (x:Tys cs) (y:Tys ds),Tys.fst cs ds (Tys.app cs ds x y)=x
  | [],_,_,_=>rfl
  | _ :: cs,ds,x,y=>congrArg (Prod.mk x.1) (zgB cs ds x.2 y)
theorem zgA:∀ (cs ds:List CK) (x:Tys cs) (y:Tys ds),Tys.snd cs ds (Tys.app cs ds x y)=y
  | [],_,_,_=>rfl
  | _ :: cs,ds,x,y=>zgA cs ds x.2 y
theorem zaC {n:Nat}:∀ {l:List Nat},zgx n l=true↔n∈l
  | []=>by simp[zgx]
  | m :: r=>by
    unfold zgx
    split
    · rename_i h; simp at h; subst h; simp
    · rename_i h
      have:n≠m:=by intro e; subst e; simp at h
      rw[zaC]; simp[this]
theorem zfc:∀ {l:List Nat},zed l=true→l.Nodup
  | [],_=>List.nodup_nil
  | m :: r,h=>by
    unfold zed at h
    split at h
    · cases h
    · rename_i hm
      exact List.nodup_cons.2 ⟨(fun hh=>by rw[zaC.2 hh] at hm; cases hm),zfc h⟩
theorem zvk:∀ {ks:List CK} {cs:List Cell} {x:Tys ks},getC ks cs=some x→Tys.cells ks x=cs
  | [],[],_,_=>rfl
  | k :: ks,c :: cs,x,h=>by
    unfold getC at h
    split at h
    · rename_i y hy
      split at h
      · rename_i z hz
        cases h
        simp only[Tys.cells]
        rw[← zfw hy,zvk hz]
      · cases h
    · cases h
  | [],_ :: _,_,h=>by cases h
  | _ :: _,[],_,h=>by cases h
theorem zD8:∀ {kss:List (List CK)} {cs:List (List Cell)} {x:Tys (flatK kss)},getK kss cs=some x→zOI kss x=cs
  | [],[],_,_=>rfl
  | k :: kss,c :: cs,x,h=>by
    unfold getK at h
    split at h
    · rename_i y hy
      split at h
      · rename_i z hz
        cases h
        simp only[zOI,zgB,zgA]
        rw[zvk hy,zD8 hz]
      · cases h
    · cases h
  | [],_ :: _,_,h=>by cases h
  | _ :: _,[],_,h=>by cases h
section
variable {s s':St} {src:List (Nat × Nat)} {muts:List Nat} {fz:Bool}
def zon (fz:Bool) (s:St) (l:List A1):Prop:=fz=true→∀ a∈l,∀ m,a.zic m→(∀ t xs,look m s.ents≠some (.arr false t xs))∧∀ t xs,look m s.ents≠some (.deep false t xs)
theorem zon.left {l m:List A1} (h:zon fz s (l++m)):zon fz s l:=fun e a ha=>h e a (List.mem_append_left _ ha)
theorem zon.right {l m:List A1} (h:zon fz s (l++m)):zon fz s m:=fun e a ha=>h e a (List.mem_append_right _ ha)
theorem zon.tail {a:A1} {m:List A1} (h:zon fz s (a :: m)):zon fz s m:=fun e b hb=>h e b (List.mem_cons_of_mem _ hb)
theorem readD_ok {es:List (Nat × Ent)} {c:CK} {a:A1} {z:c.ty} (h:readD es muts c a=some z):okA muts a=true∧(a.as es c=some z∨(a.via es c=some z∧pooled es=true∧PN ∉ muts)):=by
  unfold readD at h
  split at h
  · rename_i ho
    refine ⟨ho,?_⟩
    split at h
    · rename_i x hx; cases h; exact .inl hx
    · split at h
      · rename_i hp
        split at h
        · cases h
        · rename_i hm
          exact .inr ⟨h,hp,fun hh=>by rw[zaC.2 hh] at hm; cases hm⟩
      · cases h
  · cases h
theorem readL_ok (hx:fz=true→PN∈muts) (hm:∀ n e,look n s'.ents=some e→e.mut=true→zaF src n∈muts):∀ {l:List C1T} {m:List A1} {x:Tys (ksL l)},zon fz s (zmu l m)→readL s.ents src muts l m=some x→WL fz s s' (zaF src) m (encL l x)
  | [],[],x,_,_=>trivial
  | .bot :: r,a :: l,x,hz,h=>⟨.bot a,readL_ok hx hm (l:=r) hz h⟩
  | .d c :: r,a :: l,x,hz,h=>by
    have h':(match readD s.ents muts c a with
      | some x=>match readL s.ents src muts r l with
        | some y=>some ((x,y):Tys (ksL (.d c :: r)))
        | none=>none
      | none=>none)=some x:=h
    split at h'
    · rename_i z hD
      obtain ⟨ho,hzz⟩:=readD_ok hD
      have harr:∀ m,a.zic m→∀ n e,look n s'.ents=some e→e.mut=true→zaF src n≠m:=fun m hma n e hl hmu heq=>by
        have:=hm n e hl hmu
        rw[heq] at this
        have hmem:=zaC.2 this
        cases a with
        | own k=>simp only[A1.zic] at hma; subst hma; simp only[okA,hmem] at ho; cases ho
        | win k _ _=>simp only[A1.zic] at hma; subst hma; simp only[okA,hmem] at ho; cases ho
        | dp k=>simp only[A1.zic] at hma; subst hma; simp only[okA,hmem] at ho; cases ho
        | dc k _ _ _=>simp only[A1.zic] at hma; subst hma; simp only[okA,hmem] at ho; cases ho
        | _=>exact hma.elim
      split at h'
      · rename_i y hy
        cases h'
        rcases hzz with hzz | ⟨hzz,hp,hnp⟩
        · exact ⟨.data a c z hzz harr (fun e m ha=>hz e a (List.mem_cons_self ..) m ha),readL_ok hx hm (l:=r) (zon.tail (a:=a) hz) hy⟩
        · refine ⟨.via a c z hzz hp (fun m hma n e hl hmu heq=>?_) ?_,readL_ok hx hm (l:=r) (zon.tail (a:=a) hz) hy⟩
          · rcases hma with hma | rfl
            · exact harr m hma n e hl hmu heq
            · exact hnp (heq▸hm n e hl hmu)
          · cases fz with
            | false=>rfl
            | true=>exact absurd (hx rfl) hnp
      · cases h'
    · cases h'
  | .own n :: r,.own m :: l,x,hz,h=>by
    have h':(match Nat.beq (zaF src n) m,look m s.ents with
      | true,some _=>readL s.ents src muts r l
      | _,_=>none)=some x:=h
    cases hb:Nat.beq (zaF src n) m with
    | false=>rw[hb] at h'; cases h'
    | true =>
      rw[hb] at h'
      cases hl:look m s.ents with
      | none=>rw[hl] at h'; cases h'
      | some e =>
        rw[hl] at h'
        have hb:=Nat.eq_of_beq_eq_true hb
        subst hb
        exact ⟨.own n (by rw[hl]; rfl),readL_ok hx hm (l:=r) hz h'⟩
  | .lp n off :: r,.lp m o :: l,x,hz,h=>by
    have h':(match Nat.beq (zaF src n) m,Nat.beq off o,look m s.ents with
      | true,true,some _=>readL s.ents src muts r l
      | _,_,_=>none)=some x:=h
    cases h1:Nat.beq (zaF src n) m with
    | false=>rw[h1] at h'; cases h'
    | true =>
    cases h2:Nat.beq off o with
    | false=>rw[h1,h2] at h'; cases h'
    | true =>
    cases hl:look m s.ents with
    | none=>rw[h1,h2,hl] at h'; cases h'
    | some e =>
    rw[h1,h2,hl] at h'
    have h1:=Nat.eq_of_beq_eq_true h1
    have h2:=Nat.eq_of_beq_eq_true h2
    subst h1; subst h2
    exact ⟨.lp n off (by rw[hl]; rfl),readL_ok hx hm (l:=r) hz h'⟩
  | .win n :: r,.win m lo k :: l,x,hz,h=>by
    have h':(match Nat.beq (zaF src n) m,look m s.ents with
      | true,some _=>match readL s.ents src muts r l with
        | some y=>some ((lo,k,y):Tys (ksL (.win n :: r)))
        | none=>none
      | _,_=>none)=some x:=h
    cases hb:Nat.beq (zaF src n) m with
    | false=>rw[hb] at h'; cases h'
    | true =>
      rw[hb] at h'
      cases hl:look m s.ents with
      | none=>rw[hl] at h'; cases h'
      | some e =>
        rw[hl] at h'
        simp only at h'
        split at h'
        · rename_i y hy
          cases h'
          have hb:=Nat.eq_of_beq_eq_true hb
          subst hb
          exact ⟨.win n lo k (by rw[hl]; rfl),readL_ok hx hm (l:=r) hz hy⟩
        · cases h'
  | .dp n :: r,.dp m :: l,x,hz,h=>by
    have h':(match Nat.beq (zaF src n) m,look m s.ents with
      | true,some _=>readL s.ents src muts r l
      | _,_=>none)=some x:=h
    cases hb:Nat.beq (zaF src n) m with
    | false=>rw[hb] at h'; cases h'
    | true =>
      rw[hb] at h'
      cases hl:look m s.ents with
      | none=>rw[hl] at h'; cases h'
      | some e =>
        rw[hl] at h'
        have hb:=Nat.eq_of_beq_eq_true hb
        subst hb
        exact ⟨.dp n (by rw[hl]; rfl),readL_ok hx hm (l:=r) hz h'⟩
  | .sp ks :: r,.sp cs 0 :: l,x,hz,h=>by
    have h' : (match getC ks cs with
      | some x=>match readL s.ents src muts r l with
        | some y=>some (Tys.app ks (ksL r) x y:Tys (ksL (.sp ks :: r)))
        | none=>none
      | none => none)=some x:=by
        rw[← h]
        show _=(match 0,getC ks cs with
          | 0,some x=>match readL s.ents src muts r l with
            | some y=>some (Tys.app ks (ksL r) x y:Tys (ksL (.sp ks :: r)))
            | none=>none
          | _,_=>none)
        cases getC ks cs<;>rfl
    split at h'
    · rename_i y hy
      split at h'
      · rename_i z hzz
        cases h'
        refine ⟨?_,?_⟩
        · simp only[zgB,zvk hy]; exact .sp cs 0
        · simp only[zgA]; exact readL_ok hx hm (l:=r) hz hzz
      · cases h'
    · cases h'
  | .sp _ :: _,.sp _ (_+1) :: _,_,_,h=>by cases h
  | .fn f kss :: r,.fn g caps :: l,x,hz,h=>by
    have h':(match Nat.beq f g,getK kss caps with
      | true,some x=>match readL s.ents src muts r l with
        | some y=>some (Tys.app (flatK kss) (ksL r) x y:Tys (ksL (.fn f kss :: r)))
        | none=>none
      | _,_=>none)=some x:=h
    split at h'
    · rename_i y hb hy
      have hb:=Nat.eq_of_beq_eq_true hb
      subst hb
      split at h'
      · rename_i z hzz
        cases h'
        refine ⟨?_,?_⟩
        · simp only[zgB,zD8 hy]; exact .fn f caps
        · simp only[zgA]; exact readL_ok hx hm (l:=r) hz hzz
      · cases h'
    · cases h'
  | .dp _ :: _,[],_,_,h=>by cases h
  | .dp _ :: _,.bot :: _,_,_,h | .dp _ :: _,.d _ :: _,_,_,h | .dp _ :: _,.mt :: _,_,_,h | .dp _ :: _,.lp _ _ :: _,_,_,h | .dp _ :: _,.own _ :: _,_,_,h | .dp _ :: _,.win _ _ _ :: _,_,_,h | .dp _ :: _,.sp _ _ :: _,_,_,h | .dp _ :: _,.oe _ _ _ :: _,_,_,h | .dp _ :: _,.de _ _ _ :: _,_,_,h | .dp _ :: _,.dc _ _ _ _ :: _,_,_,h=>by cases h
  | .own _ :: _,.dp _ :: _,_,_,h | .own _ :: _,.de _ _ _ :: _,_,_,h | .own _ :: _,.dc _ _ _ _ :: _,_,_,h=>by cases h
  | .lp _ _ :: _,.dp _ :: _,_,_,h | .lp _ _ :: _,.de _ _ _ :: _,_,_,h | .lp _ _ :: _,.dc _ _ _ _ :: _,_,_,h=>by cases h
  | .win _ :: _,.dp _ :: _,_,_,h | .win _ :: _,.de _ _ _ :: _,_,_,h | .win _ :: _,.dc _ _ _ _ :: _,_,_,h=>by cases h
  | [],_ :: _,_,_,h=>by cases h
  | .bot :: _,[],_,_,h=>by cases h
  | .d _ :: _,[],_,_,h=>by cases h
  | .own _ :: _,[],_,_,h=>by cases h
  | .lp _ _ :: _,[],_,_,h=>by cases h
  | .win _ :: _,[],_,_,h=>by cases h
  | .own _ :: _,.bot :: _,_,_,h | .own _ :: _,.d _ :: _,_,_,h | .own _ :: _,.mt :: _,_,_,h | .own _ :: _,.lp _ _ :: _,_,_,h | .own _ :: _,.win _ _ _ :: _,_,_,h | .own _ :: _,.sp _ _ :: _,_,_,h | .own _ :: _,.oe _ _ _ :: _,_,_,h=>by cases h
  | .lp _ _ :: _,.bot :: _,_,_,h | .lp _ _ :: _,.d _ :: _,_,_,h | .lp _ _ :: _,.mt :: _,_,_,h | .lp _ _ :: _,.own _ :: _,_,_,h | .lp _ _ :: _,.win _ _ _ :: _,_,_,h | .lp _ _ :: _,.sp _ _ :: _,_,_,h | .lp _ _ :: _,.oe _ _ _ :: _,_,_,h=>by cases h
  | .win _ :: _,.bot :: _,_,_,h | .win _ :: _,.d _ :: _,_,_,h | .win _ :: _,.mt :: _,_,_,h | .win _ :: _,.own _ :: _,_,_,h | .win _ :: _,.lp _ _ :: _,_,_,h | .win _ :: _,.sp _ _ :: _,_,_,h | .win _ :: _,.oe _ _ _ :: _,_,_,h=>by cases h
  | .sp _ :: _,[],_,_,h | .fn _ _ :: _,[],_,_,h=>by cases h
  | .sp _ :: _,.bot :: _,_,_,h | .sp _ :: _,.d _ :: _,_,_,h | .sp _ :: _,.mt :: _,_,_,h | .sp _ :: _,.lp _ _ :: _,_,_,h | .sp _ :: _,.own _ :: _,_,_,h | .sp _ :: _,.win _ _ _ :: _,_,_,h | .sp _ :: _,.oe _ _ _ :: _,_,_,h | .sp _ :: _,.dp _ :: _,_,_,h | .sp _ :: _,.de _ _ _ :: _,_,_,h | .sp _ :: _,.dc _ _ _ _ :: _,_,_,h | .sp _ :: _,.fn _ _ :: _,_,_,h=>by cases h
  | .fn _ _ :: _,.bot :: _,_,_,h | .fn _ _ :: _,.d _ :: _,_,_,h | .fn _ _ :: _,.mt :: _,_,_,h | .fn _ _ :: _,.lp _ _ :: _,_,_,h | .fn _ _ :: _,.own _ :: _,_,_,h | .fn _ _ :: _,.win _ _ _ :: _,_,_,h | .fn _ _ :: _,.oe _ _ _ :: _,_,_,h | .fn _ _ :: _,.dp _ :: _,_,_,h | .fn _ _ :: _,.de _ _ _ :: _,_,_,h | .fn _ _ :: _,.dc _ _ _ _ :: _,_,_,h | .fn _ _ :: _,.sp _ _ :: _,_,_,h=>by cases h
  | .own _ :: _,.fn _ _ :: _,_,_,h | .lp _ _ :: _,.fn _ _ :: _,_,_,h | .win _ :: _,.fn _ _ :: _,_,_,h | .dp _ :: _,.fn _ _ :: _,_,_,h=>by cases h
end
end Go.Di
open Go.RowKit (Below)
namespace Go.Di
section
variable {s s':St} {src:List (Nat × Nat)} {muts:List Nat} {fz:Bool}
theorem zdE:∀ {l:List (Nat × ET)} {x:Tys (ksE l)} {n:Nat} {e:Ent},look n (zgE l x)=some e→e.mut=true→zaF src n∈zj6 src l
  | (k,.box l) :: r,x,n,e,h,hm=>by
    simp only[zgE,zas] at h
    split at h
    · rename_i hk; subst hk; exact List.mem_cons_self ..
    · exact List.mem_cons_of_mem _ (zdE (l:=r) h hm)
  | (k,.arr fr t) :: r,x,n,e,h,hm=>by
    simp only[zgE,zas] at h
    split at h
    · rename_i hk; subst hk; cases h
      cases fr with
      | true=>cases hm
      | false=>exact List.mem_cons_self ..
    · have:=zdE (l:=r) h hm
      cases fr with
      | true=>exact this
      | false=>exact List.mem_cons_of_mem _ this
  | (k,.deep t) :: r,x,n,e,h,hm=>by
    simp only[zgE,zas] at h
    split at h
    · rename_i hk; subst hk; exact List.mem_cons_self ..
    · exact List.mem_cons_of_mem _ (zdE (l:=r) h hm)
  | (k,.pool) :: r,x,n,e,h,hm=>by
    simp only[zgE,zas] at h
    split at h
    · rename_i hk; subst hk; exact List.mem_cons_self ..
    · exact List.mem_cons_of_mem _ (zdE (l:=r) h hm)
theorem ziR:∀ {l:List (Nat × ET)} {x:Tys (ksE l)} {n m:Nat} {e f:Ent},(zj6 src l).Nodup→look n (zgE l x)=some e→look m (zgE l x)=some f→e.mut=true→f.mut=true→zaF src n=zaF src m→n=m
  | (k,.box l) :: r,x,n,m,e,f,hn,h1,h2,h3,h4,h5=>by
    simp only[zgE,zas] at h1 h2
    have hn':=List.nodup_cons.1 hn
    split at h1<;>split at h2
    · rename_i a b; rw[a,b]
    · rename_i a b; subst a; exact absurd (h5▸zdE (l:=r) h2 h4) hn'.1
    · rename_i a b; subst b; exact absurd (h5▸zdE (l:=r) h1 h3) hn'.1
    · exact ziR (l:=r) hn'.2 h1 h2 h3 h4 h5
  | (k,.deep t) :: r,x,n,m,e,f,hn,h1,h2,h3,h4,h5=>by
    simp only[zgE,zas] at h1 h2
    have hn':=List.nodup_cons.1 hn
    split at h1<;>split at h2
    · rename_i a b; rw[a,b]
    · rename_i a b; subst a; exact absurd (h5▸zdE (l:=r) h2 h4) hn'.1
    · rename_i a b; subst b; exact absurd (h5▸zdE (l:=r) h1 h3) hn'.1
    · exact ziR (l:=r) hn'.2 h1 h2 h3 h4 h5
  | (k,.pool) :: r,x,n,m,e,f,hn,h1,h2,h3,h4,h5=>by
    simp only[zgE,zas] at h1 h2
    have hn':=List.nodup_cons.1 hn
    split at h1<;>split at h2
    · rename_i a b; rw[a,b]
    · rename_i a b; subst a; exact absurd (h5▸zdE (l:=r) h2 h4) hn'.1
    · rename_i a b; subst b; exact absurd (h5▸zdE (l:=r) h1 h3) hn'.1
    · exact ziR (l:=r) hn'.2 h1 h2 h3 h4 h5
  | (k,.arr true t) :: r,x,n,m,e,f,hn,h1,h2,h3,h4,h5=>by
    simp only[zgE,zas] at h1 h2
    split at h1
    · cases h1; cases h3
    · split at h2
      · cases h2; cases h4
      · exact ziR (l:=r) hn h1 h2 h3 h4 h5
  | (k,.arr false t) :: r,x,n,m,e,f,hn,h1,h2,h3,h4,h5=>by
    simp only[zgE,zas] at h1 h2
    have hn':=List.nodup_cons.1 hn
    split at h1<;>split at h2
    · rename_i a b; rw[a,b]
    · rename_i a b; subst a; exact absurd (h5▸zdE (l:=r) h2 h4) hn'.1
    · rename_i a b; subst b; exact absurd (h5▸zdE (l:=r) h1 h3) hn'.1
    · exact ziR (l:=r) hn'.2 h1 h2 h3 h4 h5
def zou:List (Option (Bool × List C1T))→List AV→List A1
  | some (_,l) :: r,.v _ m :: e=>zmu l m++zou r e
  | _ :: r,_ :: e=>zou r e
  | _,_=>[]
theorem readS_ok (hx:fz=true→PN∈muts) (hm:∀ n e,look n s'.ents=some e→e.mut=true→zaF src n∈muts):∀ {l:List (Option (Bool × List C1T))} {env:List AV} {x:Tys (ksS l)},zon fz s (zou l env)→readS s.ents src muts l env=some x →
    (encS l x).length=env.length∧∀ (t:Nat) b,(encS l x)[t]? = some b→∃ a,env[t]? = some a∧WAV fz s s' (zaF src) a b
  | [],[],x,_,_=>⟨rfl,fun t b h=>by simp[encS] at h⟩
  | none :: r,a :: e,x,hz,h=>by
    obtain ⟨h1,h2⟩:=readS_ok hx hm (l:=r) hz h
    refine ⟨by simp[encS,h1],fun t b hb=>?_⟩
    cases t with
    | zero=>simp[encS] at hb; subst hb; exact ⟨a,rfl,.inl rfl⟩
    | succ t=>simp only[encS,List.getElem?_cons_succ] at hb ⊢; exact h2 t b hb
  | some (g, l) :: r,.v g' m :: e,x,hz,h=>by
    have hz1:zon fz s (zmu l m):=zon.left (m:=zou r e) hz
    have hz2:zon fz s (zou r e):=zon.right (l:=zmu l m) hz
    have main:∀ x,(match readL s.ents src muts l m with
      | some x=>match readS s.ents src muts r e with
        | some y=>some (Tys.app (ksL l) (ksS r) x y)
        | none=>none
      | none=>none)=some x→g=g'→(encS (some (g,l) :: r) x).length=(AV.v g' m :: e).length∧∀ (t:Nat) b,(encS (some (g,l) :: r) x)[t]? = some b→∃ a,(AV.v g' m :: e)[t]? = some a∧WAV fz s s' (zaF src) a b:=by
      intro x h' hg
      subst hg
      cases h1:readL s.ents src muts l m with
      | none=>rw[h1] at h'; cases h'
      | some y =>
        rw[h1] at h'
        cases h2:readS s.ents src muts r e with
        | none=>rw[h2] at h'; cases h'
        | some z =>
          rw[h2] at h'; cases h'
          obtain ⟨k1,k2⟩:=readS_ok hx hm (l:=r) hz2 h2
          refine ⟨by simp only[encS,zgA,List.length_cons,k1],fun t b hb=>?_⟩
          cases t with
          | zero =>
            simp only[encS,zgB,List.getElem?_cons_zero,Option.some.injEq] at hb
            subst hb
            exact ⟨_,rfl,.inr ⟨g,m,_,rfl,rfl,readL_ok hx hm hz1 h1⟩⟩
          | succ t =>
            simp only[encS,zgA,List.getElem?_cons_succ] at hb ⊢
            exact k2 t b hb
    cases g<;>cases g'
    · exact main x h rfl
    · cases h
    · cases h
    · exact main x h rfl
  | some (_,_) :: _,.tup _ :: _,_,_,h=>by cases h
  | [],_ :: _,_,_,h=>by cases h
  | none :: _,[],_,_,h=>by cases h
  | some (_,_) :: _,[],_,_,h=>by cases h
theorem readE_ok (hx:fz=true→PN∈muts) (hm:∀ n e,look n s'.ents=some e→e.mut=true→zaF src n∈muts):∀ {l:List (Nat × ET)} {x:Tys (ksE l)},zon fz s (zkr s.ents src l)→readE s.ents src muts l=some x →
    ∀ n e',look n (zgE l x)=some e'→∃ e,look (zaF src n) s.ents=some e ∧
    ((∃ l l',e = .box l∧e' = .box l'∧WL fz s s' (zaF src) l l')∨(∃ fr t xs,e = .arr fr t xs∧e' = .arr fr t xs)∨(∃ t xs,e = .deep false t xs∧e' = .deep false t xs)∨∃ k,e = .pool k∧e' = .pool k)
  | (k, .deep t) :: r,x,hzz,h,n,e',hl=>by
    have h' : (match look (zaF src k) s.ents with
      | some (.deep false u xs)=>match ST.cast u t xs with
          | some x=>match readE s.ents src muts r with
            | some y=>some ((x,y):Tys (ksE ((k,.deep t) :: r)))
            | none=>none
          | none=>none
      | _=>none)=some x:=h
    split at h'
    · rename_i u xs hk
      split at h'
      · rename_i y hc
        split at h'
        · rename_i z hz
          cases h'
          obtain ⟨rfl,rfl⟩:=cast_eq hc
          have hl2:(if n=k then some (Ent.deep false u xs) else look n (zgE r z))=some e':=by rw[← zas]; exact hl
          split at hl2
          · rename_i hn; subst hn; cases hl2
            exact ⟨_,hk,.inr (.inr (.inl ⟨u,xs,rfl,rfl⟩))⟩
          · exact readE_ok hx hm (l:=r) hzz hz n e' hl2
        · cases h'
      · cases h'
    · cases h'
  | (k, .pool) :: r,x,hzz,h,n,e',hl=>by
    have h':(match look (zaF src k) s.ents with
      | some (.pool q)=>match readE s.ents src muts r with
        | some y=>some ((q,y):Tys (ksE ((k,.pool) :: r)))
        | none=>none
      | _=>none)=some x:=h
    split at h'
    · rename_i q hk
      split at h'
      · rename_i z hz
        cases h'
        have hl2:(if n=k then some (Ent.pool q) else look n (zgE r z))=some e':=by rw[← zas]; exact hl
        split at hl2
        · rename_i hn; subst hn; cases hl2
          exact ⟨_,hk,.inr (.inr (.inr ⟨q,rfl,rfl⟩))⟩
        · exact readE_ok hx hm (l:=r) hzz hz n e' hl2
      · cases h'
    · cases h'
  | [],x,_,_,n,e',hl=>by cases hl
  | (k, .box l) :: r,x,hz,h,n,e',hl=>by
    have h':(match look (zaF src k) s.ents with
      | some (.box m)=>match readL s.ents src muts l m with
        | some x=>match readE s.ents src muts r with
          | some y=>some (Tys.app (ksL l) (ksE r) x y:Tys (ksE ((k,.box l) :: r)))
          | none=>none
        | none=>none
      | _=>none)=some x:=h
    split at h'
    · rename_i m hk
      have hz':zon fz s (zmu l m++zkr s.ents src r):=by
        have:zkr s.ents src ((k,.box l) :: r)=zmu l m++zkr s.ents src r:=by simp only[zkr,hk]
        rw[this] at hz; exact hz
      split at h'
      · rename_i y hy
        split at h'
        · rename_i z hzz
          cases h'
          simp only[zgE,zgB,zgA,zas] at hl
          split at hl
          · rename_i hn; subst hn; cases hl
            exact ⟨.box m,hk,.inl ⟨m,_,rfl,rfl,readL_ok hx hm hz'.left hy⟩⟩
          · exact readE_ok hx hm hz'.right hzz n e' hl
        · cases h'
      · cases h'
    · cases h'
  | (k, .arr true t) :: r,x,hzz,h,n,e',hl=>by
    have h' : (match look (zaF src k) s.ents with
      | some (.arr true u xs)=>match ST.cast u t xs with
          | some x=>match readE s.ents src muts r with
            | some y=>some ((x,y):Tys (ksE ((k,.arr true t) :: r)))
            | none=>none
          | none=>none
      | _ => none)=some x:=by
        rw[← h]
        show _ = (match look (zaF src k) s.ents with
          | some (.arr fr' u xs)=>match true,fr' with
            | true,true | false,false=>match ST.cast u t xs with
              | some x=>match readE s.ents src muts r with
                | some y=>some ((x,y):Tys (ksE ((k,.arr true t) :: r)))
                | none=>none
              | none=>none
            | _,_=>none
          | _=>none)
        cases look (zaF src k) s.ents with
        | none=>rfl
        | some e=>cases e with
          | box l=>rfl
          | deep _ _ _=>rfl
          | pool _=>rfl
          | arr fr' u xs=>cases fr'<;>rfl
    split at h'
    · rename_i u xs hk
      split at h'
      · rename_i y hc
        split at h'
        · rename_i z hz
          cases h'
          obtain ⟨rfl,rfl⟩:=cast_eq hc
          have hl2:(if n=k then some (Ent.arr true u xs) else look n (zgE r z))=some e':=by rw[← zas]; exact hl
          split at hl2
          · rename_i hn; subst hn; cases hl2
            exact ⟨_,hk,.inr (.inl ⟨true,u,xs,rfl,rfl⟩)⟩
          · exact readE_ok hx hm (l:=r) hzz hz n e' hl2
        · cases h'
      · cases h'
    · cases h'
  | (k, .arr false t) :: r,x,hzz,h,n,e',hl=>by
    have h' : (match look (zaF src k) s.ents with
      | some (.arr false u xs)=>match ST.cast u t xs with
          | some x=>match readE s.ents src muts r with
            | some y=>some ((x,y):Tys (ksE ((k,.arr false t) :: r)))
            | none=>none
          | none=>none
      | _ => none)=some x:=by
        rw[← h]
        show _ = (match look (zaF src k) s.ents with
          | some (.arr fr' u xs)=>match false,fr' with
            | true,true | false,false=>match ST.cast u t xs with
              | some x=>match readE s.ents src muts r with
                | some y=>some ((x,y):Tys (ksE ((k,.arr false t) :: r)))
                | none=>none
              | none=>none
            | _,_=>none
          | _=>none)
        cases look (zaF src k) s.ents with
        | none=>rfl
        | some e=>cases e with
          | box l=>rfl
          | deep _ _ _=>rfl
          | pool _=>rfl
          | arr fr' u xs=>cases fr'<;>rfl
    split at h'
    · rename_i u xs hk
      split at h'
      · rename_i y hc
        split at h'
        · rename_i z hz
          cases h'
          obtain ⟨rfl,rfl⟩:=cast_eq hc
          have hl2:(if n=k then some (Ent.arr false u xs) else look n (zgE r z))=some e':=by rw[← zas]; exact hl
          split at hl2
          · rename_i hn; subst hn; cases hl2
            exact ⟨_,hk,.inr (.inl ⟨false,u,xs,rfl,rfl⟩)⟩
          · exact readE_ok hx hm (l:=r) hzz hz n e' hl2
        · cases h'
      · cases h'
    · cases h'
theorem Tm.zwq {T:Tm} {ex:List Nat} {x:Tys T.ks} (h:T.zF1 ex s=some x) (hx:fz=true→PN∈ex) (hz:zon fz s (zou T.slots s.env++zkr s.ents (T.src s) T.ents)):Wk fz s (T.enc x) (zaF (T.src s)):=by
  unfold Tm.zF1 at h
  simp only at h
  split at h
  · rename_i hn0
    obtain ⟨hn,hpn⟩:=Bool.and_eq_true_iff.1 hn0
    split at h
    · rename_i y hy
      split at h
      · rename_i z hzz
        cases h
        have he:(T.enc (Tys.app (ksS T.slots) (ksE T.ents) y z)).ents=zgE T.ents z:=by simp only[Tm.enc,zgA]
        have hv:(T.enc (Tys.app (ksS T.slots) (ksE T.ents) y z)).env=encS T.slots y:=by simp only[Tm.enc,zgB]
        have hm:∀ n e,look n (T.enc (Tys.app (ksS T.slots) (ksE T.ents) y z)).ents=some e→e.mut=true→zaF (T.src s) n∈ex++zj6 (T.src s) T.ents:=by
          intro n e hl hmu; rw[he] at hl; exact List.mem_append_right _ (zdE hl hmu)
        have hx:fz=true→PN∈ex++zj6 (T.src s) T.ents:=fun h=>List.mem_append_left _ (hx h)
        obtain ⟨k1,k2⟩:=readS_ok hx hm hz.left hy
        refine ⟨(by rw[hv]; exact k1),fun t b hb=>?_,fun n e' hl=>?_,fun n m e f h1 h2 h3 h4 h5=>?_,Nat.eq_of_beq_eq_true hpn⟩
        · rw[hv] at hb; exact k2 t b hb
        · rw[he] at hl; exact readE_ok hx hm hz.right hzz n e' hl
        · rw[he] at h1 h2; exact ziR (zfc hn) h1 h2 h3 h4 h5
      · cases h
    · cases h
  · cases h
theorem Tm.zue {T:Tm} {x:Tys T.ks} (h:T.read s=some x):Wk false s (T.enc x) (zaF (T.src s)):=Tm.zwq (ex:=[]) h (fun e=>by cases e) fun e=>by cases e
theorem zGT {l:List A1}:zon false s l:=fun h=>by cases h
theorem znm {src:List (Nat × Nat)}:∀ {l:List (Nat × ET)},pinsOk src l=true→∀ n e,(n,e)∈l→n % 64=63→zaF src n=n
  | (m, f) :: r,h,n,e,hm,hn=>by
    unfold pinsOk at h
    rcases List.mem_cons.1 hm with h0 | hm
    · cases h0
      have:Nat.beq (m % 64) 63=true:=by rw[hn]; rfl
      rw[this] at h
      simp only at h
      split at h
      · rename_i hb; exact Nat.eq_of_beq_eq_true hb
      · cases h
    · split at h
      · split at h
        · exact znm h n e hm hn
        · cases h
      · exact znm h n e hm hn
theorem zgn {n:Nat} {e:Ent}:∀ {l:List (Nat × ET)} {x:Tys (ksE l)},look n (zgE l x)=some e→∃ t,(n,t)∈l
  | (k,.box l) :: r,x,h=>by
    simp only[zgE,zas] at h
    split at h
    · rename_i hk; subst hk; exact ⟨_,List.mem_cons_self ..⟩
    · obtain ⟨t,ht⟩:=zgn (l:=r) h; exact ⟨t,List.mem_cons_of_mem _ ht⟩
  | (k,.arr fr t) :: r,x,h=>by
    simp only[zgE,zas] at h
    split at h
    · rename_i hk; subst hk; exact ⟨_,List.mem_cons_self ..⟩
    · obtain ⟨t,ht⟩:=zgn (l:=r) h; exact ⟨t,List.mem_cons_of_mem _ ht⟩
  | (k,.deep t) :: r,x,h=>by
    simp only[zgE,zas] at h
    split at h
    · rename_i hk; subst hk; exact ⟨_,List.mem_cons_self ..⟩
    · obtain ⟨t,ht⟩:=zgn (l:=r) h; exact ⟨t,List.mem_cons_of_mem _ ht⟩
  | (k,.pool) :: r,x,h=>by
    simp only[zgE,zas] at h
    split at h
    · rename_i hk; subst hk; exact ⟨_,List.mem_cons_self ..⟩
    · obtain ⟨t,ht⟩:=zgn (l:=r) h; exact ⟨t,List.mem_cons_of_mem _ ht⟩
theorem Tm.zpL {C:Bs} {bt:Nat→Option Value} {tm:Array Value} {w:World} {T:Tm} {x:Tys T.ks} (h:T.zBU s=some x) (g:Gam C s NoX bt tm w):Gam C (T.enc x) NoX (fun n=>bt (zaF (T.src s) n)) tm w:=by
  unfold Tm.zBU at h
  split at h
  · rename_i hp
    refine g.wk (Tm.zue h) ?_
    intro k e hl hk
    have hm:=zgn (l:=T.ents) hl
    exact hm.elim fun t ht=>znm hp k t ht hk
  · cases h
end
end Go.Di
open Go.RowKit (Below)
namespace Go.Di
def AV.has (a:A1):AV→Prop
  | .v _ l=>a∈l
  | .tup ps=>∃ p∈ps,a∈p.2
theorem zck.conv {x y:Cx}:∀ {l:List A1} {vs:List Value},(∀ a∈l,∀ v,A1Ok x a v→A1Ok y a v)→zck x l vs→zck y l vs
  | [],[],_,_=>trivial
  | a :: _l,v :: _vs,h,⟨h1,h2,h3⟩=>⟨h a (List.mem_cons_self ..) v h1,h2,h3.conv fun b hb=>h b (List.mem_cons_of_mem _ hb)⟩
  | [],_ :: _,_,h=>h.elim
  | _ :: _,[],_,h=>h.elim
theorem VOk.conv {x y:Cx} {g:Bool} {l:List A1} {v:Value} (h:∀ a∈l,∀ v,A1Ok x a v→A1Ok y a v) (hv:VOk x g l v):VOk y g l v:=by
  cases g with
  | true=>obtain ⟨vs,h1,h2⟩:=hv; exact ⟨vs,h1,h2.conv h⟩
  | false=>obtain ⟨a,rfl,h2,h3⟩:=hv; exact ⟨a,rfl,h a (List.mem_cons_self ..) v h2,h3⟩
theorem zk7.conv {x y:Cx}:∀ {ps:List (Bool × List A1)} {vs:List Value},(∀ p∈ps,∀ a∈p.2,∀ v,A1Ok x a v→A1Ok y a v)→zk7 x ps vs→zk7 y ps vs
  | [],[],_,_=>trivial
  | p :: _l,_v :: _vs,h,⟨h1,h2⟩=>⟨VOk.conv (h p (List.mem_cons_self ..)) h1,h2.conv fun q hq=>h q (List.mem_cons_of_mem _ hq)⟩
  | [],_ :: _,_,h=>h.elim
  | _ :: _,[],_,h=>h.elim
theorem zaR.conv {x y:Cx} {a:AV} {v:Value} (h:∀ b,a.has b→∀ v,A1Ok x b v→A1Ok y b v) (hv:zaR x a v):zaR y a v:=by
  cases a with
  | v g l=>exact VOk.conv h hv
  | tup ps=>obtain ⟨vs,h1,h2⟩:=hv; exact ⟨vs,h1,h2.conv fun p hp b hb=>h b ⟨p,hp,hb⟩⟩
def bare:Cell→Prop
  | .sl _ _=>False
  | _=>True
theorem zMT {c:Cell} (h:bare c):∀ t xs,c ≠ .sl t xs:=by
  intro t xs he; subst he; exact h
def zkI (tup:Bool) (vs:Array Value):Value:=match tup with
  | true => .tuple vs
  | false=>vs.getD 0 undef
def zaw (P:Program) (F:Nat→Option (Array Value→Prop)) (f:FuncId) (c:Con):Prop :=
  ∀ (C:Bs) (w:World) (β:Nat→Option Value) (args:Array Value) (x:Tys c.sig.tin.ks) (y:c.ρ),C.fix=F→c.run x=some y→Gam C (c.sig.tin.enc x) NoX β args w →
    Calls P f args w fun e w'=>∃ vs β',e = .returned (zkI c.sig.tup vs)∧Kp C.keep w w'∧Gam C (c.sig.zgF.enc (c.out y)) NoX β' vs w'
/-! ### How a call finds the state -/
section
variable {P:Program} {C:Bs} {w w':World} {s s':St} {X:Nat→Prop} {β β':Nat→Option Value} {a:Act} {o:Oper} {tm:Array Value} {src:Nat→Nat} {fz:Bool}
  {t:TypeId} {x y:Operand} {i:TI} {K:Act→World→Prop} {Q:Exit→Act→World→Prop}
def Callable (P : Program) (f : FuncId) : Prop := ∃ fn, P.funcs[f]? = some fn ∧ (fn.name == "runtime.NumGoroutine") = false ∧ fn.body.isNone = false
theorem zmE {f:FuncId} (hf:Callable P f) {args:Array Operand} {ts:Array TypeId} (ho:o.op = .call { callee := .value (.func f),args:=args,argTypes:=ts }) :
    (execOp a.eval o).run P w = .ok (.enter f (args.map a.eval)) w:=by
  obtain ⟨fn,h1,h2,h3⟩:=hf
  simp only[beq_eq_false_iff_ne,ne_eq] at h2
  have h4:fn.body≠none:=by intro e; rw[e] at h3; cases h3
  simp[execOp,ho,resolve,Act.eval,Deferred.ofValue,invoke,callFunc,h1,h2,h4]
def zvy (fz:Bool) (C:Bs) (s:St) (β:Nat→Option Value) (w:World):Nat→Prop:=match fz with
  | false=>fun _=>True
  | true=>fun b=>b < w.heap.size∧¬ Top (fun n=>look n s.ents) β b∧(¬ C.keep b∨C.old b)
def zqQ (fz:Bool) (C:Bs) (s s':St) (src:Nat→Nat) (β:Nat→Option Value) (w:World):Bs where
  keep b:=b < w.heap.size∧¬ Top (fun n=>look n s'.ents) (fun n=>β (src n)) b
  w0:=w
  old:=zvy fz C s β w
  pin n:=if n % 64=63∧n≠PN then β (src n) else none
  fix:=C.fix
  sure _:=True
  tk:=some (zd1 fun n=>β (src n))
theorem zHU:QOk fz C s β w (zvy fz C s β w):=by
  cases fz with
  | false=>exact ⟨fun _ _ _ _=>trivial,fun _ _ _=>trivial⟩
  | true=>exact ⟨fun b h1 h2 h3=>⟨h1,h2,h3⟩,fun h=>by cases h⟩
theorem zqP (g:Gam C s NoX β tm w) (h:Wk fz s s' src) (hpn:look PN s'.ents=none):Gam (zqQ fz C s s' src β w) s' NoX (fun n=>β (src n)) tm w:=by
  have hq:QOk fz C s β w (zvy fz C s β w):=zHU
  have hle:Le (zKU s' src β w (zvy fz C s β w)) (cx (zqQ fz C s s' src β w) s' (fun n=>β (src n)) w) (fun _=>True) :=
    ⟨fun _ h => .inr h,fun _ _ _=>rfl,Nat.le_refl _,fun _ _ _ h=>h,fun n _ => .inr (.inl ⟨rfl,.inl rfl⟩),fun _ _ _ fr _ _ h=>⟨fr,h,rfl⟩,fun _ _ h=>h⟩
  refine ⟨h.len.trans g.len,fun t b hx hb=>?_,fun n e' v hl hv=>?_,h.uniq g,fun b hb=>⟨fun hk=>hk.2 hb,(g.fresh b (h.top hb)).2⟩,fun b hb=>hb.1,Kp.refl _ _,fun n v hp _=>?_,fun n hn=>?_,fun n e he=>?_,fun b p hp=>?_,fun π hπ=>⟨by cases hπ; rfl,hpn⟩⟩
  · obtain ⟨a,h1,h2⟩:=h.env t b hb
    exact hle.av (zkG b) (h.av g hq h2 (g.env t a hx h1))
  · exact EntOk.le hle (by cases e'<;>first | exact ze3 _ | trivial) (fun _ _ _=>rfl) (h.zOH g hq hl hv)
  · simp only[zqQ] at hp
    split at hp
    · exact hp
    · cases hp
  · simp only[zqQ] at hn
    split at hn
    · assumption
    · cases hn
  · obtain ⟨e0,h1,_⟩:=h.ents n e he
    exact g.bs (src n) e0 h1
  · exact ⟨⟨trivial,g.kb b (g.fx b p hp).1.2,fun ht=>(g.fresh b (h.top ht)).1 (g.fx b p hp).1.2⟩,g.fxw b p hp⟩
/-! ### Names that go -/
theorem freeN_spec:∀ (K:List Nat) (s:St),(∀ m,m∈K→look m (St.za1 K s).ents=none) ∧
    (∀ m f,look m (St.za1 K s).ents=some f→m ∉ K∧∃ f0,look m s.ents=some f0∧f.mut=f0.mut∧(f=f0∨∃ l l',f0 = .box l∧f = .box l')∧f.refs (fun n=>n ∉ K)∧(∀ q,f0.refs q→f.refs q)∧∀ (x:Cx) v,EntOk x f0 v→EntOk x f v) ∧
    (∀ m f0,look m s.ents=some f0→m ∉ K→∃ f,look m (St.za1 K s).ents=some f∧(f=f0∨∃ l l',f0 = .box l∧f = .box l')) ∧
    ((St.za1 K s).env.length=s.env.length) ∧
    ∀ (t:Nat) a,(St.za1 K s).env[t]? = some a→∃ a0,s.env[t]? = some a0∧a.refs (fun n=>n ∉ K)∧(∀ q,a0.refs q→a.refs q)∧∀ (x:Cx) v,zaR x a0 v→zaR x a v
  | [],s=>by
    have one:∀ b:A1,b.refs (fun k=>k ∉ ([]:List Nat)):=by
      intro b; cases b<;>first | trivial | simp[A1.refs]
    refine ⟨(fun m h=>by cases h),(fun m f h=>⟨by simp,f,h,rfl,.inl rfl,?_,fun _ h=>h,fun _ _ h=>h⟩),(fun m f0 h _=>⟨f0,h,.inl rfl⟩),rfl,(fun t a h=>⟨a,h,?_,fun _ h=>h,fun _ _ h=>h⟩)⟩
    · cases f with
      | box l=>exact fun b _=>one b
      | arr _ _ _=>trivial
      | deep _ _=>trivial
      | pool _=>trivial
    · cases a with
      | v g l=>exact fun b _=>one b
      | tup ps=>exact fun p _ b _=>one b
  | n :: K, s => by
    obtain ⟨h1,h2,h3,h4,h5⟩:=freeN_spec K (s.free n)
    have le:(s.free n).env.length=s.env.length:=by simp[St.free,zd7]
    refine ⟨fun m hm=>?_,fun m f hf=>?_,fun m f0 hf hm=>?_,h4.trans le,fun t a ha=>?_⟩
    · by_cases hk:m∈K
      · exact h1 m hk
      · have:m=n:=(List.mem_cons.1 hm).resolve_right hk
        subst this
        cases hl:look m (St.za1 K (s.free m)).ents with
        | none=>exact hl
        | some f =>
          obtain ⟨_,f0,q,_⟩:=h2 m f hl
          simp[za4] at q
    · obtain ⟨k1,f1,k2,k3,k4,k5,k5b,k6⟩:=h2 m f hf
      simp only[za4] at k2
      split at k2
      · cases k2
      · rename_i hmn
        cases h0:look m s.ents with
        | none=>simp[h0] at k2
        | some f0 =>
          simp[h0] at k2; subst k2
          refine ⟨by simp[hmn,k1],f0,rfl,by rw[k3,zdn],?_,?_,fun q hq=>k5b q (zhi n hq),fun x v hv=>k6 x v (hv.kill n)⟩
          · cases f0 with
            | box l =>
              right
              rcases k4 with rfl | ⟨l1,l2,q,rfl⟩
              · exact ⟨l,_,rfl,rfl⟩
              · exact ⟨l,l2,rfl,rfl⟩
            | arr fr t xs =>
              rcases k4 with rfl | ⟨l1,l2,q,rfl⟩
              · exact .inl rfl
              · cases q
            | deep t xs =>
              rcases k4 with rfl | ⟨l1,l2,q,rfl⟩
              · exact .inl rfl
              · cases q
            | pool k =>
              rcases k4 with rfl | ⟨l1,l2,q,rfl⟩
              · exact .inl rfl
              · cases q
          · have r1:f.refs (·≠n):=k5b _ (zdG n f0)
            have:=zme r1 k5
            cases f with
            | arr _ _ _=>trivial
            | deep _ _=>trivial
            | pool _=>trivial
            | box l =>
              intro b hb
              have:=this b hb
              cases b<;>first | trivial | (intro hm; rcases List.mem_cons.1 hm with e | e; exact this.1 e; exact this.2 e) | exact ⟨fun hm=>(List.mem_cons.1 hm).elim this.1.1 this.1.2,fun hm=>(List.mem_cons.1 hm).elim this.2.1 this.2.2⟩
    · simp only[List.mem_cons,not_or] at hm
      have q:look m (s.free n).ents=some (f0.kill n):=by simp[za4,hm.1,hf]
      obtain ⟨f,k1,k2⟩:=h3 m _ q hm.2
      refine ⟨f,k1,?_⟩
      cases f0 with
      | box l =>
        right
        rcases k2 with rfl | ⟨l1,l2,q,rfl⟩
        · exact ⟨l,_,rfl,rfl⟩
        · exact ⟨l,l2,rfl,rfl⟩
      | arr fr t xs =>
        rcases k2 with rfl | ⟨l1,l2,q,rfl⟩
        · exact .inl rfl
        · cases q
      | deep t xs =>
        rcases k2 with rfl | ⟨l1,l2,q,rfl⟩
        · exact .inl rfl
        · cases q
      | pool k =>
        rcases k2 with rfl | ⟨l1,l2,q,rfl⟩
        · exact .inl rfl
        · cases q
    · obtain ⟨a1,k1,k2,k2b,k3⟩:=h5 t a ha
      simp only[St.free,zeh] at k1
      cases h0:s.env[t]? with
      | none=>simp[h0] at k1
      | some a0 =>
        simp[h0] at k1; subst k1
        refine ⟨a0,rfl,?_,fun q hq=>k2b q (zh8 n hq),fun x v hv=>k3 x v (hv.kill n)⟩
        have r1:a.refs (·≠n):=k2b _ (zd8 n a0)
        have:=znc r1 k2
        have one:∀ b:A1,b.refs (fun k=>k≠n∧k ∉ K)→b.refs (fun k=>k ∉ n :: K):=by
          intro b hb
          cases b<;>first | trivial | (intro hm; rcases List.mem_cons.1 hm with e | e; exact hb.1 e; exact hb.2 e) | exact ⟨fun hm=>(List.mem_cons.1 hm).elim hb.1.1 hb.1.2,fun hm=>(List.mem_cons.1 hm).elim hb.2.1 hb.2.2⟩
        cases a with
        | v g l=>exact fun b hb=>one b (this b hb)
        | tup ps=>exact fun p hp b hb=>one b (this p hp b hb)
end
end Go.Di
open Go.RowKit (Below)
namespace Go.Di
def zMW (e e':Ent):Prop:=(∃ l l',e = .box l∧e' = .box l')∨(∃ (t:ST) (xs xs':List t.El),e = .arr false t xs∧e' = .arr false t xs'∧xs'.length=xs.length) ∨
  ∃ (t:ST) (xs xs':List t.El),e = .deep false t xs∧e' = .deep false t xs'∧xs'.length=xs.length
section
variable {P:Program} {C:Bs} {w w':World} {s s':St} {X:Nat→Prop} {β β':Nat→Option Value} {tm:Array Value}
theorem zMW.mut {e e':Ent} (h:zMW e e'):e.mut=true∧e'.mut=true:=by
  rcases h with ⟨l,l',rfl,rfl⟩ | ⟨t,xs,xs',rfl,rfl,_⟩ | ⟨t,xs,xs',rfl,rfl,_⟩<;>exact ⟨rfl,rfl⟩
theorem Gam.call (g:Gam C s X β tm w) {K:List Nat} {l:List (Nat × Ent)} (hn:(names l).Nodup)
    (hin:∀ n e',(n,e')∈l→n∈K∨∃ e,look n s.ents=some e∧zMW e e')
    (hstir:∀ n fr t xs,(n,Ent.deep fr t xs)∈l→n ∉ K→dcn n∈K)
    (hβ:∀ m,m ∉ names l∨m ∉ K→β' m=β m)
    (hw:∀ b,b < w.heap.size→¬ Top (fun n=>look n s.ents) β b→w'.heap[b]? = w.heap[b]?)
    (hwk:∀ m e v,look m s.ents=some e→e.mut=true→β m=some v→m ∉ K→m ∉ names l→∀ b∈zaq v,w'.heap[b]? = w.heap[b]?)
    (hsz:w.heap.size≤w'.heap.size) (hbel:Kp C.keep w w')
    (htopn:∀ n e v b,(n,e)∈l→β' n=some v→e.mut=true→b∈zaq v→b < w'.heap.size∧(w.heap.size≤b∨(Top (fun n=>look n s.ents) β b∧∀ m e0 u,look m s.ents=some e0→e0.mut=true→β m=some u→b∈zaq u→m∈K∨m∈names l)))
    (huniq:∀ n m e f v u b,(n,e)∈l→(m,f)∈l→e.mut=true→f.mut=true→β' n=some v→β' m=some u→b∈zaq v→b∈zaq u→n=m)
    (hpin:∀ n∈names l,n∈K→n % 64≠63) (hbs:∀ n∈names l,(β' n).isSome)
    (hents:Le (cx C s β w) (cx C ⟨(St.za1 K s).env,Go.Di.zhW l (St.za1 K s).ents⟩ β' w') (fun n=>n ∉ K)→∀ n e v,(n,e)∈l→β' n=some v→EntOk (cx C ⟨(St.za1 K s).env,Go.Di.zhW l (St.za1 K s).ents⟩ β' w') e v) :
    Gam C ⟨(St.za1 K s).env,Go.Di.zhW l (St.za1 K s).ents⟩ X β' tm w':=by
  obtain ⟨f1,f2,f3,f4,f5⟩:=freeN_spec K s
  -- what is there behind the call
  have cases_:∀ n e,look n (Go.Di.zhW l (St.za1 K s).ents)=some e→(n,e)∈l∨(n ∉ names l∧n ∉ K∧∃ e0,look n s.ents=some e0∧e.mut=e0.mut∧e.refs (fun k=>k ∉ K)∧∀ (x:Cx) v,EntOk x e0 v→EntOk x e v):=by
    intro n e h
    rcases zbW l _ n e hn h with h | ⟨h1,h2⟩
    · exact .inl h
    · obtain ⟨q1,e0,q2,q3,_,q5,_,q6⟩:=f2 n e h2
      exact .inr ⟨h1,q1,e0,q2,q3,q5,q6⟩
  have mem_names:∀ n e,(n,e)∈l→n∈names l:=fun n e h=>List.mem_map.2 ⟨_,h,rfl⟩
  have htop:∀ b,Top (fun n=>look n (Go.Di.zhW l (St.za1 K s).ents)) β' b→b < w'.heap.size∧(w.heap.size≤b∨Top (fun n=>look n s.ents) β b):=by
    rintro b ⟨n,e,v,h1,h2,h3,h4⟩
    rcases cases_ n e h1 with h | ⟨k1,k2,e0,k3,k4,_⟩
    · obtain ⟨q1,q2⟩:=htopn n e v b h h3 h2 h4
      exact ⟨q1,q2.imp id (·.1)⟩
    · rw[hβ n (.inl k1)] at h3
      have hT:Top (fun n=>look n s.ents) β b:=⟨n,e0,v,k3,by rw[← k4]; exact h2,h3,h4⟩
      exact ⟨Nat.lt_of_lt_of_le (g.fresh b hT).2 hsz,.inr hT⟩
  have hPN:β' PN=β PN:=by
    by_cases h1:PN∈names l
    · by_cases h2:PN∈K
      · exact absurd (by decide) (hpin PN h1 h2)
      · exact hβ PN (.inr h2)
    · exact hβ PN (.inl h1)
  have htk:zd1 β'=zd1 β:=by funext i; simp only[zd1,hPN]
  have hle : Le (cx C s β w) (cx C ⟨(St.za1 K s).env,Go.Di.zhW l (St.za1 K s).ents⟩ β' w') (fun n=>n ∉ K):=by
    refine ⟨fun _ h=>h,fun b hlt hnt=>hw b hlt hnt,hsz,fun b hlt _ ht=>?_,fun n hk=>?_,fun n hk hk2 fr t xs hy=>?_,fun i v h=>(congrFun htk i).trans h⟩
    · rcases (htop b ht).2 with h | h
      · simp only[cx] at hlt; omega
      · exact h
    · show look n (Go.Di.zhW l (St.za1 K s).ents)=none∨(β' n=β n∧(look n (Go.Di.zhW l (St.za1 K s).ents)=look n s.ents ∨
        (∃ l1 l',look n s.ents=some (.box l1)∧look n (Go.Di.zhW l (St.za1 K s).ents)=some (.box l')) ∨
        (∃ fr fr' t xs xs',look n s.ents=some (.arr fr t xs)∧look n (Go.Di.zhW l (St.za1 K s).ents)=some (.arr fr' t xs')∧xs'.length=xs.length) ∨
        ∃ fr fr' t xs,look n s.ents=some (.deep fr t xs)∧look n (Go.Di.zhW l (St.za1 K s).ents)=some (.deep fr' t xs))) ∨
        (∃ fr fr' t xs xs' vs vs',look n s.ents=some (.deep fr t xs)∧look n (Go.Di.zhW l (St.za1 K s).ents)=some (.deep fr' t xs')∧xs'.length=xs.length∧β n=some (.tuple vs)∧β' n=some (.tuple vs')∧vs'[0]? = vs[0]?) ∨
        ∃ a b vs vs',look n s.ents=some (.pool a)∧look n (Go.Di.zhW l (St.za1 K s).ents)=some (.pool b)∧β n=some (.tuple vs)∧β' n=some (.tuple vs')∧∀ (i:Nat) (v:Value),vs[i]? = some v→vs'[i]? = some v
      by_cases hm:n∈names l
      · right
        have hbn:=hβ n (.inr hk)
        obtain ⟨p,hp,rfl⟩:=List.mem_map.1 hm
        obtain ⟨n,e'⟩:=p
        have hl':=zef l (St.za1 K s).ents n e' hn hp
        obtain ⟨e,k1,k2⟩:=(hin n e' hp).resolve_left hk
        rcases k2 with ⟨l1,l2,rfl,rfl⟩ | ⟨t,xs,xs',rfl,rfl,hx⟩ | ⟨t,xs,xs',rfl,rfl,hx⟩
        · exact .inl ⟨hbn,.inr (.inl ⟨l1,l2,k1,hl'⟩)⟩
        · exact .inl ⟨hbn,.inr (.inr (.inl ⟨false,false,t,xs,xs',k1,hl',hx⟩))⟩
        · right; left
          have hs:=g.bs n _ k1
          cases hb:β n with
          | none=>rw[hb] at hs; cases hs
          | some v =>
            obtain ⟨u,us,rfl,_⟩:=g.ents n _ v k1 hb
            exact ⟨false,false,t,xs,xs',_,_,k1,hl',hx,rfl,by rw[← hb]; exact hbn,rfl⟩
      · rw [za3 n l _ hm]
        cases h0:look n s.ents with
        | none =>
          left
          cases hq:look n (St.za1 K s).ents with
          | none=>rfl
          | some f=>obtain ⟨_,e0,q,_⟩:=f2 n f hq; rw[h0] at q; cases q
        | some e0 =>
          right; left
          refine ⟨hβ n (.inl hm),?_⟩
          obtain ⟨f,k1,k2⟩:=f3 n e0 h0 hk
          rw[k1]
          rcases k2 with rfl | ⟨l1,l2,rfl,rfl⟩
          · exact .inl rfl
          · exact .inr (.inl ⟨l1,l2,rfl,rfl⟩)
    · have hy:look n (Go.Di.zhW l (St.za1 K s).ents)=some (.deep fr t xs):=hy
      rcases zbW l _ n _ hn hy with h | ⟨hm,h⟩
      · exact absurd (hstir n fr t xs h hk) hk2
      · obtain ⟨_,f0,q1,_,q3,_⟩:=f2 n _ h
        rcases q3 with rfl | ⟨l1,l2,_,q3⟩
        · exact ⟨fr,q1,hβ n (.inl hm)⟩
        · cases q3
  refine ⟨f4.trans g.len,fun t av hx h=>?_,fun n e v h1 h2=>?_,?_,fun b h=>?_,fun b hk=>Nat.lt_of_lt_of_le (g.kb b hk) hsz,g.below.trans hbel,fun n v hp hl=>?_,g.np,fun n e h=>?_,g.fx,fun π hπ=>⟨htk.trans (g.tk π hπ).1,?_⟩⟩
  · obtain ⟨a0,q1,q2,_,q3⟩:=f5 t av h
    exact hle.av q2 (q3 _ _ (g.env t a0 hx q1))
  · rcases cases_ n e h1 with h | ⟨k1,k2,e0,k3,k4,k5,k6⟩
    · exact hents hle n e v h h2
    · rw[hβ n (.inl k1)] at h2
      exact EntOk.le hle k5 (fun b hb hm=>hwk n e0 v k3 (by rw[← k4]; exact hm) h2 k2 k1 b hb) (k6 _ v (g.ents n e0 v k3 h2))
  · intro n m e f u v b h1 h2 h3 h4 h5 h6 h7 h8
    rcases cases_ n e h1 with h | ⟨k1,k2,e0,k3,k4,_⟩<;>rcases cases_ m f h2 with h' | ⟨q1,q2,e1,q3,q4,_⟩
    · exact huniq n m e f u v b h h' h3 h4 h5 h6 h7 h8
    · rw [hβ m (.inl q1)] at h6
      rcases (htopn n e u b h h5 h3 h7).2 with hh | ⟨_,hh⟩
      · have:=(g.fresh b ⟨m,e1,v,q3,by rw[← q4]; exact h4,h6,h8⟩).2; omega
      · rcases hh m e1 v q3 (by rw[← q4]; exact h4) h6 h8 with hh | hh
        · exact absurd hh q2
        · exact absurd hh q1
    · rw [hβ n (.inl k1)] at h5
      rcases (htopn m f v b h' h6 h4 h8).2 with hh | ⟨_,hh⟩
      · have:=(g.fresh b ⟨n,e0,u,k3,by rw[← k4]; exact h3,h5,h7⟩).2; omega
      · rcases hh n e0 u k3 (by rw[← k4]; exact h3) h5 h7 with hh | hh
        · exact absurd hh k2
        · exact absurd hh k1
    · rw[hβ n (.inl k1)] at h5; rw[hβ m (.inl q1)] at h6
      exact g.uniq n m e0 e1 u v b k3 q3 (by rw[← k4]; exact h3) (by rw[← q4]; exact h4) h5 h6 h7 h8
  · obtain ⟨q1,q2⟩:=htop b h
    refine ⟨fun hk=>?_,q1⟩
    rcases q2 with q2 | q2
    · have:=g.kb b hk; omega
    · exact (g.fresh b q2).1 hk
  · by_cases hm:n∈names l
    · by_cases hk:n∈K
      · exact absurd (g.np n (by rw[hp]; rfl)).1 (hpin n hm hk)
      · rw[hβ n (.inr hk)]
        obtain ⟨p,hp',rfl⟩:=List.mem_map.1 hm
        obtain ⟨e,k1,_⟩:=(hin p.1 p.2 hp').resolve_left hk
        exact g.pin p.1 v hp (by rw[k1]; rfl)
    · rw [hβ n (.inl hm)]
      have hl':(look n (Go.Di.zhW l (St.za1 K s).ents)).isSome:=hl
      rw[za3 n l _ hm] at hl'
      cases hq:look n (St.za1 K s).ents with
      | none=>rw[hq] at hl'; cases hl'
      | some f =>
        obtain ⟨_,e0,q,_⟩:=f2 n f hq
        exact g.pin n v hp (by rw[q]; rfl)
  · rcases cases_ n e h with h | ⟨k1,k2,e0,k3,_⟩
    · exact hbs n (mem_names n e h)
    · rw[hβ n (.inl k1)]; exact g.bs n e0 k3
  · cases h:look PN (Go.Di.zhW l (St.za1 K s).ents) with
    | none=>rfl
    | some e =>
      rcases cases_ PN e h with h | ⟨k1,k2,e0,k3,_⟩
      · rcases hin PN e h with hk | ⟨e0,k1,_⟩
        · exact absurd (by decide) (hpin PN (mem_names PN e h) hk)
        · rw[(g.tk π hπ).2] at k1; cases k1
      · rw[(g.tk π hπ).2] at k3; cases k3
end
end Go.Di
open Go.RowKit (Below)
namespace Go.Di
theorem zeS:∀ (l:List (Nat × ET)) (x:Tys (ksE l)),names (zgE l x)=namesT l
  | [],_=>rfl
  | (n,.box l) :: r,x=>by
    show n :: names (zgE r (Tys.snd (ksL l) (ksE r) x))=n :: namesT r
    rw[zeS r]
  | (n,.arr fr t) :: r,x=>by
    show n :: names (zgE r x.2)=n :: namesT r
    rw[zeS r]
  | (n,.deep t) :: r,x=>by
    show n :: names (zgE r x.2)=n :: namesT r
    rw[zeS r]
  | (n,.pool) :: r,x=>by
    show n :: names (zgE r x.2)=n :: namesT r
    rw[zeS r]
theorem zle (f:Nat→Nat):∀ l:List (Nat × Ent),names (zKo f l)=(names l).map f
  | []=>rfl
  | (n,e) :: r=>by
    show f n :: names (zKo f r)=f n :: (names r).map f
    rw[zle f r]
theorem zwA {f:Nat→Nat} {n:Nat} {e:Ent}:∀ {l:List (Nat × Ent)},(n,e)∈zKo f l→∃ q e0,(q,e0)∈l∧n=f q∧e=e0.ren f
  | (m,g) :: r,h=>by
    rcases List.mem_cons.1 h with h | h
    · cases h; exact ⟨m,g,List.mem_cons_self ..,rfl,rfl⟩
    · obtain ⟨q,e0,h1,h2,h3⟩:=zwA (l:=r) h
      exact ⟨q,e0,List.mem_cons_of_mem _ h1,h2,h3⟩
theorem zpK {f:Nat→Nat} {q:Nat} {e:Ent}:∀ {l:List (Nat × Ent)},(q,e)∈l→(f q,e.ren f)∈zKo f l
  | (m,g) :: r,h=>by
    rcases List.mem_cons.1 h with h | h
    · cases h; exact List.mem_cons_self ..
    · exact List.mem_cons_of_mem _ (zpK (l:=r) h)
theorem zwC {n:Nat} {e:Ent}:∀ {l:List (Nat × Ent)},look n l=some e→(n,e)∈l
  | (m,f) :: r,h=>by
    rw[zas] at h
    split at h
    · rename_i hk; subst hk; cases h; exact List.mem_cons_self ..
    · exact List.mem_cons_of_mem _ (zwC h)
theorem zwB {n:Nat} {e:Ent} {l:List (Nat × Ent)} (hn:(names l).Nodup) (h:(n,e)∈l):look n l=some e:=by
  induction l with
  | nil=>cases h
  | cons p r ih =>
    obtain ⟨m,f⟩:=p
    rw[zas]
    simp only[names,List.map_cons,List.nodup_cons] at hn
    rcases List.mem_cons.1 h with h1 | h1
    · cases h1; simp
    · have:n≠m:=by
        intro hnm
        subst hnm
        exact hn.1 (List.mem_map.2 ⟨(n,e),h1,rfl⟩)
      rw[if_neg this]; exact ih hn.2 h1
theorem zeT {n:Nat}:∀ {l:List (Nat × ET)},n∈namesT l→∃ t,(n,t)∈l
  | (m,e) :: r,h=>by
    rcases List.mem_cons.1 h with rfl | h
    · exact ⟨e,List.mem_cons_self ..⟩
    · obtain ⟨t,ht⟩:=zeT (l:=r) h; exact ⟨t,List.mem_cons_of_mem _ ht⟩
theorem za2 {n:Nat} {t:ET}:∀ {l:List (Nat × ET)},(n,t)∈l→n∈namesT l
  | (m,e) :: r,h=>by
    rcases List.mem_cons.1 h with h | h
    · cases h; exact List.mem_cons_self ..
    · exact List.mem_cons_of_mem _ (za2 h)
theorem zeU {f:Nat→Nat} {m:Nat}:∀ {l:List (Nat × ET)},m∈zei f l→∃ q t,(q,t)∈l∧q % 64≠63∧m=f q
  | (q,t) :: r,h=>by
    unfold zei at h
    split at h
    · obtain ⟨q',t',h1,h2⟩:=zeU (l:=r) h; exact ⟨q',t',List.mem_cons_of_mem _ h1,h2⟩
    · rename_i hb
      rcases List.mem_cons.1 h with rfl | h
      · exact ⟨q,t,List.mem_cons_self ..,(by intro e; rw[e] at hb; simp at hb),rfl⟩
      · obtain ⟨q',t',h1,h2⟩:=zeU (l:=r) h; exact ⟨q',t',List.mem_cons_of_mem _ h1,h2⟩
theorem zhv {f:Nat→Nat} {q:Nat} {t:ET} (hq:q % 64≠63):∀ {l:List (Nat × ET)},(q,t)∈l→f q∈zei f l
  | (m,e) :: r,h=>by
    unfold zei
    rcases List.mem_cons.1 h with h | h
    · cases h
      have:Nat.beq (q % 64) 63=false:=by rw[Bool.eq_false_iff]; intro hb; exact hq (Nat.eq_of_beq_eq_true hb)
      rw[this]; exact List.mem_cons_self ..
    · have:=zhv hq h (f:=f)
      split
      · exact this
      · exact List.mem_cons_of_mem _ this
theorem zo0 {src:List (Nat × Nat)} {outs:List Nat} {p:Nat} {t:ET}:∀ {l:List (Nat × ET)},(p,t)∈l→(p % 64=63∧p∈outs)∨zaF src p∈zj7 src outs l
  | (m, e) :: r,h=>by
    unfold zj7
    rcases List.mem_cons.1 h with h | h
    · cases h
      cases h1:Nat.beq (p % 64) 63 with
      | false=>exact .inr (List.mem_cons_self ..)
      | true =>
        cases h2:zgx p outs with
        | false=>exact .inr (List.mem_cons_self ..)
        | true=>exact .inl ⟨Nat.eq_of_beq_eq_true h1,zaC.1 h2⟩
    · rcases zo0 (l:=r) h with h | h
      · exact .inl h
      · right
        split
        · exact h
        · exact List.mem_cons_of_mem _ h
theorem zgN {src:List (Nat × Nat)} {outs:List Nat} {m:Nat}:∀ {l:List (Nat × ET)},m∈zj7 src outs l→∃ p t,(p,t)∈l∧m=zaF src p∧¬ (p % 64=63∧p∈outs)
  | (p,e) :: r,h=>by
    unfold zj7 at h
    split at h
    · obtain ⟨p',t',h1,h2⟩:=zgN (l:=r) h; exact ⟨p',t',List.mem_cons_of_mem _ h1,h2⟩
    · rename_i hne
      rcases List.mem_cons.1 h with rfl | h
      · exact ⟨p,e,List.mem_cons_self ..,rfl,fun ⟨h1,h2⟩=>hne (by rw[h1]; rfl) (zaC.2 h2)⟩
      · obtain ⟨p',t',h1,h2⟩:=zgN (l:=r) h; exact ⟨p',t',List.mem_cons_of_mem _ h1,h2⟩
theorem zoi {n:Nat} {t:ET}:∀ {l:List (Nat × ET)},zyD l=true→(n,t)∈l→t.mut=true
  | (m,e) :: r,h,hm=>by
    unfold zyD at h
    split at h
    · rename_i he
      rcases List.mem_cons.1 hm with hm | hm
      · cases hm; exact he
      · exact zoi h hm
    · cases h
theorem zgS {n:Nat} {e:ET}:∀ {l:List (Nat × ET)},zot n l=some e→(n,e)∈l
  | (m,f) :: r,h=>by
    unfold zot at h
    split at h
    · rename_i hb; cases h; rw[Nat.eq_of_beq_eq_true hb]; exact List.mem_cons_self ..
    · exact List.mem_cons_of_mem _ (zgS h)
theorem pinIn_ok {ins:List (Nat × ET)} {q:Nat} {e:ET}:∀ {l:List (Nat × ET)},pinIn ins l=true→(q,e)∈l →
    (q % 64=63∧((∃ l1 l2,zot q ins=some (.box l1)∧e = .box l2)∨(∃ t,zot q ins=some (.arr false t)∧e = .arr false t)∨∃ t,zot q ins=some (.deep t)∧e = .deep t))∨(q % 64≠63∧q < 63∧(∀ t,e ≠ .arr true t)∧e ≠ .pool)
  | (m, f) :: r,h,hm=>by
    unfold pinIn at h
    cases hb:Nat.beq (m % 64) 63 with
    | true =>
      rw[hb] at h
      simp only at h
      split at h
      · rename_i l1 l2 h1
        rcases List.mem_cons.1 hm with hm | hm
        · cases hm; exact .inl ⟨Nat.eq_of_beq_eq_true hb,.inl ⟨_,_,h1,rfl⟩⟩
        · exact pinIn_ok h hm
      · rename_i t u h1
        split at h
        · rename_i he
          rcases List.mem_cons.1 hm with hm | hm
          · cases hm; exact .inl ⟨Nat.eq_of_beq_eq_true hb,.inr (.inl ⟨t,h1,by rw[znR he]⟩)⟩
          · exact pinIn_ok h hm
        · cases h
      · rename_i t u h1
        split at h
        · rename_i he
          rcases List.mem_cons.1 hm with hm | hm
          · cases hm; exact .inl ⟨Nat.eq_of_beq_eq_true hb,.inr (.inr ⟨t,h1,by rw[znR he]⟩)⟩
          · exact pinIn_ok h hm
        · cases h
      · cases h
    | false =>
      rw[hb] at h
      simp only at h
      cases hlt:Nat.blt m 63 with
      | false =>
        rw[hlt] at h
        cases f with
        | box l=>cases h
        | deep t=>cases h
        | pool=>cases h
        | arr fr t=>cases fr<;>cases h
      | true =>
        rw[hlt] at h
        have hf:∀ t,f ≠ .arr true t:=by
          rintro t rfl; cases h
        have hp:f ≠ .pool:=by
          rintro rfl; cases h
        have h':pinIn ins r=true:=by
          cases f with
          | pool=>exact absurd rfl hp
          | box l=>exact h
          | deep t=>exact h
          | arr fr t=>cases fr with
            | true=>exact absurd rfl (hf t)
            | false=>exact h
        rcases List.mem_cons.1 hm with hm | hm
        · cases hm
          refine .inr ⟨fun e=>?_,Nat.le_of_ble_eq_true hlt,hf,hp⟩
          rw[e] at hb; simp at hb
        · exact pinIn_ok h' hm
end Go.Di
open Go.RowKit (Below)
namespace Go.Di
theorem zff {t:ST} (ht:t.zfZ=true) {e:t.El} {k:Nat} {u:ST} {xs:List u.El} (h:(t.cells e)[k]? = some (.sl u xs)):u = .int:=by
  have hm:=List.mem_of_getElem? h
  cases t with
  | rat=>simp[ST.cells] at hm; rcases hm with h | h<;>exact (Cell.sl.inj h).1
  | sta=>simp[ST.cells] at hm; rcases hm with h | h | h | h<;>exact (Cell.sl.inj h).1
  | obs=>simp[ST.cells] at hm; rcases hm with h | h | h | h<;>exact (Cell.sl.inj h).1
  | _=>cases ht
theorem zzK {t:ST} (ht:t.znX=true) {e:t.El} {k:Nat} {u:ST} {xs:List u.El} (h:(t.cells e)[k]? = some (.sl u xs)):(u = .int∧t.zfZ=true)∨(u = .rat∧t = .rats):=by
  cases t with
  | rats =>
    have hm:=List.mem_of_getElem? h
    simp[ST.cells] at hm
    exact .inr ⟨(Cell.sl.inj hm).1,rfl⟩
  | rat=>exact .inl ⟨zff rfl h,rfl⟩
  | sta=>exact .inl ⟨zff rfl h,rfl⟩
  | obs=>exact .inl ⟨zff rfl h,rfl⟩
  | _=>cases ht
theorem zkY {t:ST} (h:t.zfZ=true):t.znX=true:=by cases t<;>first | rfl | cases h
theorem zmO {t:ST}:∀ {xs:List t.El} {j:Nat} {c:Cell},(flat t xs)[j]? = some c→∃ (e:t.El) (k:Nat),(t.cells e)[k]? = some c
  | [],j,c,h=>by simp[flat] at h
  | x :: r,j,c,h=>by
    have hf:flat t (x :: r)=t.cells x++flat t r:=by simp[flat]
    rw[hf] at h
    rcases Nat.lt_or_ge j (t.cells x).length with hlt | hge
    · rw[List.getElem?_append_left hlt] at h; exact ⟨x,j,h⟩
    · rw[List.getElem?_append_right hge] at h; exact zmO h
theorem zsK {t:ST} (ht:t.zfZ=true) {xs:List t.El} {k:Nat} {u:ST} {ys:List u.El} (h:(flat t xs)[k]? = some (.sl u ys)):u = .int:=by
  obtain ⟨e,j,h'⟩:=zmO h
  exact zff ht h'
theorem zzJ {t:ST} (ht:t.znX=true) {xs:List t.El} {k:Nat} {u:ST} {ys:List u.El} (h:(flat t xs)[k]? = some (.sl u ys)):(u = .int∧t.zfZ=true)∨(u = .rat∧t = .rats):=by
  obtain ⟨e,j,h'⟩:=zmO h
  exact zzK ht h'
def zFB (a:A1) (u:Value):Value:=match a with
  | .own _ | .mt=>u
  | _ => .bool false
def zor:List A1→List Value→List Value
  | a :: l,u :: us=>zFB a u :: zor l us
  | _,_=>[]
theorem zfQ:∀ {l:List A1} {us:List Value},l.length=us.length→(zor l us).length=l.length
  | [],[],_=>rfl
  | a :: l,u :: us,h=>by simp[zor,zfQ (l:=l) (us:=us) (by simpa using h)]
theorem ziM:∀ {l:List A1} {us:List Value} {k:Nat} {a:A1} {u:Value},l[k]? = some a→us[k]? = some u→(zor l us)[k]? = some (zFB a u)
  | b :: l,v :: us,0,a,u,h1,h2=>by simp at h1 h2; subst h1; subst h2; rfl
  | b :: l,v :: us,k+1,a,u,h1,h2=>by simpa [zor] using ziM (l:=l) (us:=us) (by simpa using h1) (by simpa using h2)
section
variable {P:Program} {C:Bs} {w w':World} {s s':St} {X:Nat→Prop} {β β':Nat→Option Value} {a:Act} {o:Oper} {tm:Array Value}
  {t:TypeId} {x y:Operand} {i:TI} {K:Act→World→Prop} {Q:Exit→Act→World→Prop}
def Cell.zFF:Cell→Prop
  | .int _ _ | .bool _ | .str _=>True
  | _=>False
theorem Cell.zFF.plain {c:Cell} (h:c.zFF):c.plain:=by cases c<;>first | trivial | exact h.elim
theorem zfL {es:List (Nat × Ent)} {a:A1} {k:List Nat} (h:a.absorb es=some k):(∃ m ys,a = .own m∧look m es=some (.arr false .int ys)∧k=[m])∨(k=[]∧(a = .mt∨∃ c,a = .d c∧c.zFF)):=by
  cases a with
  | own m =>
    left
    have h':(match look m es with | some (.arr false .int _)=>some [m] | _=>none)=some k:=h
    cases hl:look m es with
    | none=>rw[hl] at h'; cases h'
    | some f =>
      rw[hl] at h'
      cases f with
      | box l=>cases h'
      | deep _ _ _=>cases h'
      | pool _=>cases h'
      | arr fr t ys =>
        cases fr<;>cases t<;>first | cases h' | skip
        exact ⟨m,ys,rfl,hl,rfl⟩
  | mt=>cases h; exact .inr ⟨rfl,.inl rfl⟩
  | d c =>
    right
    cases c with
    | sl t xs=>cases h
    | tok k=>cases h
    | any=>cases h
    | _=>cases h; exact ⟨rfl,.inr ⟨_,rfl,trivial⟩⟩
  | _=>cases h
theorem zsZ (g:Gam C s X β tm w) {a:A1} {k:List Nat} {u:Value} {ck:CK} {z:ck.ty} (ha:A1Ok (cx C s β w) a u) (h:a.absorb s.ents=some k) (has:a.as s.ents ck=some z) (hint:∀ t xs,ck.cell z = .sl t xs→t = .int)
    {y:Cx} (hy:∀ b∈zaE u,y.w.heap[b]? = w.heap[b]?):zcB y u (ck.cell z) (zFB a u):=by
  rcases zfL h with ⟨m,ys,rfl,hl,rfl⟩ | ⟨rfl,rfl | ⟨c,rfl,hc⟩⟩
  · cases ck with
    | sl t =>
      obtain ⟨fr,hl'⟩:=zyA (ys:=z) has
      rw[hl] at hl'
      cases hl'
      have hb:β m=some u:=ha false .int ys hl
      have ho:OwnI (cx C s β w) ys u:=g.ents m _ u hl hb
      exact ⟨rfl,ho.go hy⟩
    | int k=>cases has
    | bool=>cases has
    | str=>cases has
    | nat=>cases has
    | tok=>cases has
    | any=>cases has
  · cases ck with
    | sl t =>
      obtain ⟨ad,rfl⟩:=ha
      have h':some ([]:List t.El)=some z:=has
      cases h'
      have ht:t = .int:=hint t [] rfl
      subst ht
      exact ⟨rfl,.inl ⟨rfl,ad,rfl⟩⟩
    | int k=>cases has
    | bool=>cases has
    | str=>cases has
    | nat=>cases has
    | tok=>cases has
    | any=>cases has
  · have hcell:c=ck.cell z:=zfw (by cases ck<;>exact has)
    subst hcell
    have hr:(cx C s β w).rd u (ck.cell z):=ha
    have hr':y.rd u (ck.cell z):=ziO hr hc.plain
    generalize ck.cell z=c at *
    cases c with
    | sl t xs=>exact hc.elim
    | tok k=>exact hc.elim
    | any=>exact hc.elim
    | _=>exact ⟨rfl,hr'⟩
theorem zAV {b:Nat} {u:Value} (h:b∈zmw u):b∈zaE u:=by
  unfold zmw at h
  split at h
  · simpa [zaE] using h
  · simpa [zaE] using h
  · cases h
theorem zfF {b:Nat} {u:Value} (h:b∈zaE u):b∈zaq u:=by
  unfold zaE at h
  split at h
  · simpa [zaq] using h
  · simpa [zaq] using h
  · obtain ⟨v,h1,h2⟩:=List.mem_flatMap.1 h
    exact List.mem_flatMap.2 ⟨v,h1,zAV h2⟩
  · cases h
theorem zz0 {a:A1} {k:List Nat} {u:Value} (ha:A1Ok (cx C s β w) a u) (h:a.absorb s.ents=some k):∀ b∈zaE (zFB a u),∃ m∈k,∃ v,β m=some v∧v=u∧b∈zaq v:=by
  intro b hb
  rcases zfL h with ⟨m,ys,rfl,hl,rfl⟩ | ⟨rfl,rfl | ⟨c,rfl,hc⟩⟩
  · have hbm:β m=some u:=ha false .int ys hl
    refine ⟨m,List.mem_singleton.2 rfl,u,hbm,rfl,?_⟩
    exact zfF hb
  · obtain ⟨ad,rfl⟩:=ha
    cases ad<;>simp[zFB,zaE] at hb
  · simp[zFB,zaE] at hb
theorem zyN (v:Value):(zmw v).Nodup:=by
  unfold zmw
  split<;>simp
theorem zeO {v:Value} (h:zaE v=zmw v):(zaE v).Nodup:=by rw[h]; exact zyN v
theorem zLj (g:Gam C s X β tm w) {a:A1} {k:List Nat} {u:Value} (ha:A1Ok (cx C s β w) a u) (h:a.absorb s.ents=some k):zaE (zFB a u)=zmw (zFB a u):=by
  rcases zfL h with ⟨m,ys,rfl,hl,rfl⟩ | ⟨rfl,rfl | ⟨c,rfl,hc⟩⟩
  · have hbm:β m=some u:=ha false .int ys hl
    have ho:OwnI (cx C s β w) ys u:=g.ents m _ u hl hbm
    exact ho.top
  · obtain ⟨ad,rfl⟩:=ha
    exact zdD ..
  · rfl
theorem zfi {es:List (Nat × Ent)} {a:A1} {r:List A1} {K:List Nat} (h:zdp es (a :: r)=some K):∃ k l,a.absorb es=some k∧zdp es r=some l∧K=k++l:=by
  unfold zdp at h
  split at h
  · rename_i k l h1 h2; cases h; exact ⟨k,l,h1,h2,rfl⟩
  · cases h
theorem ziq (g:Gam C s X β tm w):∀ {l:List A1} {us:List Value} {K:List Nat},zck (cx C s β w) l us→zdp s.ents l=some K→K.Nodup →
    ((zor l us).flatMap zaE).Nodup∧∀ b∈(zor l us).flatMap zaE,∃ m∈K,∃ v,β m=some v∧b∈zaq v
  | [],[],K,_,_,_=>⟨by simp[zor],fun b hb=>by simp[zor] at hb⟩
  | a :: l,u :: us,K,⟨h1,_,h3⟩,h,hK=>by
    obtain ⟨k,l',e1,e2,rfl⟩:=zfi h
    have hK':=List.nodup_append.1 hK
    obtain ⟨r1,r2⟩:=ziq g h3 e2 hK'.2.1
    have t1:=zz0 h1 e1
    simp only[zor,List.flatMap_cons]
    refine ⟨List.nodup_append.2 ⟨zeO (zLj g h1 e1),r1,fun b hb c hc e=>?_⟩,fun b hb=>?_⟩
    · subst e
      obtain ⟨m,hm,v,k1,k2,k3⟩:=t1 b hb
      obtain ⟨m',hm',v',k1',k3'⟩:=r2 b hc
      have mutOf:∀ n,n∈k++l'→∃ e,look n s.ents=some e∧e.mut=true:=absorb_mut h
      obtain ⟨f,f1,f2⟩:=mutOf m (List.mem_append_left _ hm)
      obtain ⟨f',f1',f2'⟩:=mutOf m' (List.mem_append_right _ hm')
      have:=g.uniq m m' f f' v v' b f1 f1' f2 f2' k1 k1' k3 k3'
      subst this
      exact hK'.2.2 m hm m hm' rfl
    · rcases List.mem_append.1 hb with hb | hb
      · obtain ⟨m,hm,v,k1,_,k3⟩:=t1 b hb
        exact ⟨m,List.mem_append_left _ hm,v,k1,k3⟩
      · obtain ⟨m,hm,v,k1,k3⟩:=r2 b hb
        exact ⟨m,List.mem_append_right _ hm,v,k1,k3⟩
  | [],_ :: _,_,h,_,_=>h.elim
  | _ :: _,[],_,h,_,_=>h.elim
where
  absorb_mut {s:St}:∀ {l:List A1} {K:List Nat},zdp s.ents l=some K→∀ n∈K,∃ e,look n s.ents=some e∧e.mut=true
    | [],K,h,n,hn=>by cases h; cases hn
    | a :: l,K,h,n,hn=>by
      obtain ⟨k,l',e1,e2,rfl⟩:=zfi h
      rcases List.mem_append.1 hn with hn | hn
      · rcases zfL e1 with ⟨m,ys,rfl,hl,rfl⟩ | ⟨rfl,_⟩
        · have:=List.mem_singleton.1 hn; subst this; exact ⟨_,hl,rfl⟩
        · cases hn
      · exact absorb_mut e2 n hn
theorem zhS {s:St}:∀ {l:List A1} {K:List Nat},zdp s.ents l=some K→∀ n∈K,∃ ys,look n s.ents=some (.arr false .int ys)
  | [],K,h,n,hn=>by cases h; cases hn
  | a :: l,K,h,n,hn=>by
    obtain ⟨k,l',e1,e2,rfl⟩:=zfi h
    rcases List.mem_append.1 hn with hn | hn
    · rcases zfL e1 with ⟨m,ys,rfl,hl,rfl⟩ | ⟨rfl,_⟩
      · have:=List.mem_singleton.1 hn; subst this; exact ⟨_,hl⟩
      · cases hn
    · exact zhS e2 n hn
end
end Go.Di
open Go.RowKit (Below)
namespace Go.Di
section
variable {P:Program} {C:Bs} {w w':World} {s s':St} {X:Nat→Prop} {β β':Nat→Option Value} {a:Act} {o:Oper} {tm:Array Value}
  {t:TypeId} {x y:Operand} {i:TI} {K:Act→World→Prop} {Q:Exit→Act→World→Prop}
theorem zEq {x:Cx} {t:ST} {xs:List t.El} {vs:Array Value} (h:DeepOk x t xs (.tuple vs)) {g q m cap:Nat} (hv:vs[0]? = some (.slice (some ⟨g,q,none⟩) m cap)) :
    ∀ (i:Nat) (c:Cell),(flat t xs)[i]? = some c→∃ u b,x.w.cell? ⟨g,q+i,none⟩=some u∧vs[1+i]? = some b∧zcB x u c b:=by
  obtain ⟨s,us,h1,h2,_,_,h4⟩:=h
  cases h1
  have hs:s = .slice (some ⟨g,q,none⟩) m cap:=by simpa using hv
  subst hs
  intro i c hi
  rcases h4 with ⟨k0,_⟩ | ⟨g',cap',cur,T,k1,k2,k3,k4,k5,k6,k7⟩
  · subst k0; simp[flat] at hi
  · cases k1
    obtain ⟨u,b,q1,q2,q3⟩:=k7 i c hi
    refine ⟨u,b,by rw[Nat.zero_add,cell_of_row _ _ i cur T (0,0) k5]; exact q1,?_,q3⟩
    rw[Nat.add_comm]; simpa using q2
def zQY (n i k:Nat):Cell→A1
  | .sl .int ys => .dc n i k ys
  | .sl .rat _ => .dc n i k []
  | c => .d c
theorem zsk {n i:Nat}:∀ {cs:List Cell} {j k:Nat} {a1:A1},(zh1 n i j cs)[k]? = some a1→∃ c,cs[k]? = some c∧a1=zQY n i (j+k) c
  | [],j,k,a1,h=>by simp[zh1] at h
  | c :: r,j,0,a1,h=>by
    cases c with
    | sl t xs=>cases t<;>simp[zh1] at h<;>exact ⟨_,rfl,h.symm⟩
    | _=>simp[zh1] at h; exact ⟨_,rfl,h.symm⟩
  | c :: r,j,k+1,a1,h=>by
    have h':(zh1 n i (j+1) r)[k]? = some a1:=by
      cases c with
      | sl t xs=>cases t<;>simpa [zh1] using h
      | _=>simpa [zh1] using h
    obtain ⟨c',h1,h2⟩:=zsk h'
    exact ⟨c',by simpa using h1,by rw[h2]; congr 1; omega⟩
theorem zia {n i:Nat}:∀ {cs:List Cell} {j:Nat},(zh1 n i j cs).length=cs.length
  | [],_=>rfl
  | c :: r,j=>by
    cases c with
    | sl t xs=>cases t<;>simp[zh1,zia (cs:=r)]
    | _=>simp[zh1,zia (cs:=r)]
def zQ7 (x:Cx) (u:Value):Cell→Value→Prop
  | .sl .int _,b=>b=u∧u.oneCell'=true
  | .sl .rat _,b=>(∃ ws,b = .tuple ws∧ws[0]? = some u)∧u.oneCell'=true
  | .sl _ _,_=>False
  | c,_=>x.rd u c
theorem deep_elem2 {x:Cx} {fr:Bool} {t:ST} {xs:List t.El} {vs:Array Value} (h:EntOk x (.deep fr t xs) (.tuple vs)) {g q m cap:Nat} (hv:vs[0]? = some (.slice (some ⟨g,q,none⟩) m cap)) :
    ∀ (i:Nat) (c:Cell),(flat t xs)[i]? = some c→∃ u b,x.w.cell? ⟨g,q+i,none⟩=some u∧vs[1+i]? = some b∧zQ7 x u c b:=by
  intro i c hi
  cases fr with
  | false =>
    obtain ⟨u,b,h1,h2,h3⟩:=zEq h hv i c hi
    refine ⟨u,b,h1,h2,?_⟩
    cases c with
    | sl tt ys =>
      cases tt with
      | int=>exact ⟨h3.1,by rcases h3.2 with ⟨_,ad,rfl⟩ | ⟨_,_,_,_,rfl,_⟩<;>rfl⟩
      | rat =>
        obtain ⟨us2,e2,_,e3⟩:=h3
        exact ⟨⟨_,e2,by simp⟩,by rcases e3 with ⟨_,ad,rfl⟩ | ⟨_,_,_,_,rfl,_⟩<;>rfl⟩
      | _=>exact h3.elim
    | tok k=>exact h3.elim
    | any=>exact h3.elim
    | _=>exact h3.2
  | true =>
    obtain ⟨s,us,e1,hcd,h4⟩:=h
    cases e1
    have hs:s = .slice (some ⟨g,q,none⟩) m cap:=by simpa using hv
    subst hs
    rcases h4 with ⟨k0,_⟩ | ⟨g',cap',k1,k2,k3,k4⟩
    · subst k0; simp[flat] at hi
    · cases k1
      obtain ⟨u,b,q1,q2,q3,q4⟩:=k4 i c hi
      refine ⟨u,b,q1,by rw[Nat.add_comm]; simpa using q2,?_⟩
      cases c with
      | sl tt ys =>
        rcases zzJ hcd hi with ⟨rfl,_⟩ | ⟨rfl,_⟩
        · obtain ⟨fp,hr,_⟩:=q3
          exact ⟨q4.1 ys rfl,hr.zhm⟩
        · obtain ⟨fp,hr,_⟩:=q3
          exact ⟨q4.2 ys rfl,hr.zhm⟩
      | _=>exact q3
theorem load_de (hL:zg1 P t i) (ho:o.op = .load t x) (g:Gam C s X β a.tmps w) {n j off:Nat} {fr:Bool} {u:ST} {xs:List u.El} (hl:look n s.ents=some (.deep fr u xs))
    (hx:zaR (cx C s β w) (.v false [.de n j off]) (a.eval x)) (hb:off+i.zero.length≤u.size) {e:u.El} (he:xs[j]? = some e)
    (hK:Goes C X o a (.v i.agg (zbb i.zero.length (zbb off (zh1 n j 0 (u.cells e))).2).1) s K):o.wp P a w K Q:=by
  obtain ⟨a1,h1,h2,_⟩:=hx; cases h1
  obtain ⟨_,vs,gb,q,m,cap,hβ,hvs,hv⟩:=h2 fr u xs hl
  have hent:=g.ents n _ _ hl hβ
  have hw:window off i.zero.length (zh1 n j 0 (u.cells e))=some (zbb i.zero.length (zbb off (zh1 n j 0 (u.cells e))).2).1:=by
    unfold window
    have:Nat.beq (zbb i.zero.length (zbb off (zh1 n j 0 (u.cells e))).2).1.length i.zero.length=true:=by
      simp only[zhh,List.length_take,List.length_drop,zia,zao,Nat.beq_eq]; omega
    simp only[this]
  obtain ⟨v, hr,hv'⟩:=znu (x:=cx C s β w) hL (b:=gb) (q:=q+j * u.size) (fun k a1 ha=>by
    obtain ⟨c,h1,rfl⟩:=zsk ha
    rw[Nat.zero_add]
    have hk:k < u.size:=by have:=(List.getElem?_eq_some_iff.1 h1).1; rwa [zao] at this
    have hf:=flat_get u xs j e k he hk
    obtain ⟨z,b,hz,hb',hd⟩:=deep_elem2 hent hvs (j * u.size+k) c (by rw[hf]; exact h1)
    refine ⟨z,by rw[Nat.add_assoc]; exact hz,?_,?_⟩
    · cases c with
      | sl tt ys =>
        cases tt with
        | int =>
          intro fr' t' xs' hl'
          have hl':look n s.ents=some (.deep fr' t' xs'):=hl'
          rw[hl] at hl'; cases hl'
          refine ⟨hk,e,he,.inl ⟨fun hu=>?_,h1,vs,hβ,?_⟩⟩
          · subst hu
            have hm:=List.mem_of_getElem? h1
            simp[ST.cells] at hm
            cases (Cell.sl.inj hm).1
          · have hb2:b=z:=hd.1
            rw[← hb2,Nat.add_assoc]; exact hb'
        | rat =>
          intro fr' t' xs' hl'
          have hl':look n s.ents=some (.deep fr' t' xs'):=hl'
          rw[hl] at hl'; cases hl'
          obtain ⟨⟨ws,hb2,hws⟩,_⟩:=hd
          have hu:u = .rats:=by
            have hm:=List.mem_of_getElem? h1
            cases u with
            | rats=>rfl
            | int=>simp[ST.cells] at hm
            | byte=>simp[ST.cells] at hm
            | str=>simp[ST.cells] at hm
            | trat=>simp[ST.cells] at hm
            | rat=>simp[ST.cells] at hm; rcases hm with h | h<;>cases (Cell.sl.inj h).1
            | sta=>simp[ST.cells] at hm; rcases hm with h | h | h | h<;>cases (Cell.sl.inj h).1
            | obs=>simp[ST.cells] at hm; rcases hm with h | h | h | h<;>cases (Cell.sl.inj h).1
          refine ⟨hk,e,he,.inr ⟨hu,vs,ws,hβ,?_,hws⟩⟩
          rw[← hb2,Nat.add_assoc]; exact hb'
        | _=>exact hd.elim
      | _=>exact hd
    · cases c with
      | sl tt ys =>
        cases tt with
        | int=>exact hd.2
        | rat=>exact hd.2
        | _=>exact hd.elim
      | _=>obtain ⟨fp,hr,_⟩:=hd; exact hr.zhm) hw
  refine zdX (v:=v) ?_ (hK v w β g hv')
  have hr:(loadVar t ⟨gb,q+j * u.size+off,none⟩).run P w = .ok v w:=hr
  simp[execOp,ho,Instr.loadAt,Instr.sureAddr,hv,hr]
theorem zie:∀ (K L:List Nat) (s:St),St.za1 (K++L) s=St.za1 L (St.za1 K s)
  | [],_L,_s=>rfl
  | k :: K,L,s=>zie K L (s.free k)
theorem Gam.zvs (g:Gam C s X β tm w) {n:Nat} {u:ST} {xs xs':List u.El} {vs vs':Array Value} {K:List Nat} (hl:look n s.ents=some (.deep false u xs)) (hβ:β n=some (.tuple vs))
    (hKm:∀ k∈K,∃ e,look k s.ents=some e∧e.mut=true) (hnK:n ∉ K) (h0:vs'[0]? = vs[0]?) (hlen:xs'.length=xs.length) (hpin:n % 64=63→vs'=vs)
    (hw:∀ b,b < w.heap.size→b ∉ zaq (.tuple vs)→w'.heap[b]? = w.heap[b]?) (hsz:w.heap.size≤w'.heap.size) (hbel:Kp C.keep w w')
    (htop:∀ b∈zaq (.tuple vs'),b∈zaq (.tuple vs)∨∃ k∈K,∃ z,β k=some z∧b∈zaq z)
    (hent:∀ y:Cx,y.w=w'→DeepOk y u xs' (.tuple vs')) :
    Gam C ⟨(St.za1 (K++[dcn n]) s).env,put n (.deep false u xs') (St.za1 (K++[dcn n]) s).ents⟩ X (upd β n (.tuple vs')) tm w':=by
  obtain ⟨f1,f2,f3,f4,f5⟩:=freeN_spec (K++[dcn n]) s
  have hnd:n≠dcn n:=by unfold dcn; omega
  have hnK':n ∉ K++[dcn n]:=by
    intro h
    rcases List.mem_append.1 h with h | h
    · exact hnK h
    · exact hnd (List.mem_singleton.1 h)
  have hPN:upd β n (.tuple vs') PN=β PN:=by
    by_cases h:PN=n
    · subst h; rw[upd_same,hβ,hpin (by decide)]
    · exact zax _ _ h
  have htk:zd1 (upd β n (.tuple vs'))=zd1 β:=by funext i; simp only[zd1,hPN]
  have old:∀ m f,m≠n→look m (put n (.deep false u xs') (St.za1 (K++[dcn n]) s).ents)=some f→m ∉ K++[dcn n]∧∃ f0,look m s.ents=some f0∧f.mut=f0.mut∧(f=f0∨∃ l l',f0 = .box l∧f = .box l')∧f.refs (fun k=>k ∉ K++[dcn n])∧∀ (y:Cx) v,EntOk y f0 v→EntOk y f v:=by
    intro m f hm h
    rw[za6,if_neg hm] at h
    obtain ⟨q1,f0,q2,q3,q4,q5,_,q6⟩:=f2 m f h
    exact ⟨q1,f0,q2,q3,q4,q5,q6⟩
  have hTn:∀ b∈zaq (.tuple vs),Top (fun k=>look k s.ents) β b:=fun b hb=>⟨n,_,_,hl,rfl,hβ,hb⟩
  have hTnew:∀ b∈zaq (.tuple vs'),Top (fun k=>look k s.ents) β b:=fun b hb=>by
    rcases htop b hb with h | ⟨k,hk,z,h1,h2⟩
    · exact hTn b h
    · obtain ⟨e,e1,e2⟩:=hKm k hk
      exact ⟨k,e,z,e1,e2,h1,h2⟩
  have hTop:∀ b,Top (fun k=>look k (put n (.deep false u xs') (St.za1 (K++[dcn n]) s).ents)) (upd β n (.tuple vs')) b→Top (fun k=>look k s.ents) β b:=by
    rintro b ⟨m,f,z,h1,h2,h3,h4⟩
    by_cases hm:m=n
    · subst hm; rw[upd_same] at h3; cases h3; exact hTnew b h4
    · obtain ⟨_,f0,q2,q3,_⟩:=old m f hm h1
      rw[zax _ _ hm] at h3
      exact ⟨m,f0,z,q2,by rw[← q3]; exact h2,h3,h4⟩
  have hle : Le (cx C s β w) (cx C ⟨(St.za1 (K++[dcn n]) s).env,put n (.deep false u xs') (St.za1 (K++[dcn n]) s).ents⟩ (upd β n (.tuple vs')) w') (fun m=>m ∉ K++[dcn n]):=by
    refine ⟨fun _ h=>h,fun b hlt hnt=>hw b hlt fun hb=>hnt (hTn b hb),hsz,fun b _ _ ht=>hTop b ht,fun m hm=>?_,fun m hm hm2 fr t ys h=>?_,fun i v h=>(congrFun htk i).trans h⟩
    · by_cases hmn:m=n
      · subst hmn
        right; right; left
        exact ⟨false,false,u,xs,xs',vs,vs',hl,by simp only[cx]; rw[za6,if_pos rfl],hlen,hβ,upd_same ..,h0⟩
      · simp only[cx]
        rw[za6,if_neg hmn,zax _ _ hmn]
        cases hl0:look m s.ents with
        | none =>
          left
          cases hq:look m (St.za1 (K++[dcn n]) s).ents with
          | none=>rfl
          | some f=>obtain ⟨_,f0,q,_⟩:=f2 m f hq; rw[hl0] at q; cases q
        | some e0 =>
          right; left
          refine ⟨rfl,?_⟩
          obtain ⟨f,k1,k2⟩:=f3 m e0 hl0 hm
          rw[k1]
          rcases k2 with rfl | ⟨l1,l2,rfl,rfl⟩
          · exact .inl rfl
          · exact .inr (.inl ⟨l1,l2,rfl,rfl⟩)
    · by_cases hmn:m=n
      · subst hmn
        exact absurd (List.mem_append_right _ (List.mem_singleton.2 rfl)) hm2
      · obtain ⟨_,f0,q1,_,q3,_⟩:=old m _ hmn h
        rcases q3 with rfl | ⟨l1,l2,_,q3⟩
        · exact ⟨fr,q1,zax _ _ hmn⟩
        · cases q3
  refine ⟨f4.trans g.len,fun t av hx h=>?_,fun m f z h1 h2=>?_,?_,fun b h=>⟨(g.fresh b (hTop b h)).1,Nat.lt_of_lt_of_le (g.fresh b (hTop b h)).2 hsz⟩,fun b hk=>Nat.lt_of_lt_of_le (g.kb b hk) hsz,g.below.trans hbel,fun m z hp hlk=>?_,g.np,fun m f h=>?_,g.fx,fun π hπ=>⟨htk.trans (g.tk π hπ).1,?_⟩⟩
  · obtain ⟨a0,q1,q2,_,q3⟩:=f5 t av h
    exact hle.av q2 (q3 _ _ (g.env t a0 hx q1))
  · by_cases hm:m=n
    · subst hm
      rw[za6,if_pos rfl] at h1; cases h1
      rw[upd_same] at h2; cases h2
      exact hent _ rfl
    · obtain ⟨hmK,f0,q2,q3,_,q5,q6⟩:=old m f hm h1
      rw[zax _ _ hm] at h2
      refine EntOk.le hle q5 (fun b hb hmu=>?_) (q6 _ z (g.ents m f0 z q2 h2))
      have hmu':f0.mut=true:=by rw[← q3]; exact hmu
      refine hw b (g.fresh b ⟨m,f0,z,q2,hmu',h2,hb⟩).2 fun hb'=>?_
      exact hm (g.uniq m n f0 _ z _ b q2 hl hmu' rfl h2 hβ hb hb')
  · -- an entry apart from n shares no block with what n has now
    have apart:∀ m f z b,m≠n→look m (put n (.deep false u xs') (St.za1 (K++[dcn n]) s).ents)=some f→f.mut=true→upd β n (.tuple vs') m=some z→b∈zaq z→b∈zaq (.tuple vs')→False:=by
      intro m f z b hm h1 h2 h3 h4 h5
      obtain ⟨hmK,f0,q2,q3,_⟩:=old m f hm h1
      rw[zax _ _ hm] at h3
      have hmu:f0.mut=true:=by rw[← q3]; exact h2
      rcases htop b h5 with h | ⟨k,hk,z',k1,k2⟩
      · exact hm (g.uniq m n f0 _ z _ b q2 hl hmu rfl h3 hβ h4 h)
      · obtain ⟨e,e1,e2⟩:=hKm k hk
        have:=g.uniq m k f0 e z z' b q2 e1 hmu e2 h3 k1 h4 k2
        subst this
        exact hmK (List.mem_append_left _ hk)
    intro m1 m2 e1 e2 z1 z2 b h1 h2 h3 h4 h5 h6 h7 h8
    by_cases hm1:m1=n<;>by_cases hm2:m2=n
    · rw[hm1,hm2]
    · subst hm1; rw[upd_same] at h5; cases h5; exact (apart m2 e2 z2 b hm2 h2 h4 h6 h8 h7).elim
    · subst hm2; rw[upd_same] at h6; cases h6; exact (apart m1 e1 z1 b hm1 h1 h3 h5 h7 h8).elim
    · obtain ⟨_,g1,q1,q2,_⟩:=old m1 e1 hm1 h1
      obtain ⟨_,g2,q3,q4,_⟩:=old m2 e2 hm2 h2
      rw[zax _ _ hm1] at h5; rw[zax _ _ hm2] at h6
      exact g.uniq m1 m2 g1 g2 z1 z2 b q1 q3 (by rw[← q2]; exact h3) (by rw[← q4]; exact h4) h5 h6 h7 h8
  · by_cases hm:m=n
    · subst hm
      have h63:=(g.np m (by rw[hp]; rfl)).1
      rw[upd_same,hpin h63,← hβ]
      exact g.pin m z hp (by rw[hl]; rfl)
    · rw [zax _ _ hm]
      rw[za6,if_neg hm] at hlk
      cases hq:look m (St.za1 (K++[dcn n]) s).ents with
      | none=>rw[hq] at hlk; cases hlk
      | some f =>
        obtain ⟨_,f0,q,_⟩:=f2 m f hq
        exact g.pin m z hp (by rw[q]; rfl)
  · by_cases hm:m=n
    · subst hm; rw[upd_same]; rfl
    · obtain ⟨_,f0,q,_⟩:=old m f hm h
      rw[zax _ _ hm]; exact g.bs m f0 q
  · cases h:look PN (put n (.deep false u xs') (St.za1 (K++[dcn n]) s).ents) with
    | none=>rfl
    | some e =>
      by_cases hm:PN=n
      · subst hm; rw[(g.tk π hπ).2] at hl; cases hl
      · obtain ⟨_,f0,q,_⟩:=old PN e hm h
        rw[(g.tk π hπ).2] at q; cases q
end
end Go.Di
open Go.RowKit (Below)
namespace Go.Di
def C1T.still:C1T→Prop
  | .sp _ | .fn _ _=>True
  | _=>False
theorem zfU:∀ {l:List C1T} {x:Tys (ksL l)} {a:A1},(∀ c∈l,¬ c.still)→a∈encL l x→a = .bot∨(∃ c y,C1T.d c∈l∧a = .d (c.cell y))∨(∃ n,C1T.own n∈l∧a = .own n)∨(∃ n o,C1T.lp n o∈l∧a = .lp n o)∨(∃ n lo k,C1T.win n∈l∧a = .win n lo k)∨∃ n,C1T.dp n∈l∧a = .dp n
  | .d c :: r,x,a,hs,h=>by
    rcases List.mem_cons.1 h with rfl | h
    · exact .inr (.inl ⟨c,x.1,List.mem_cons_self ..,rfl⟩)
    · rcases zfU (l:=r) (fun c hc=>hs c (List.mem_cons_of_mem _ hc)) h with h | ⟨c,y,h1,h2⟩ | ⟨n,h1,h2⟩ | ⟨n,o,h1,h2⟩ | ⟨n,lo,k,h1,h2⟩ | ⟨n,h1,h2⟩
      · exact .inl h
      · exact .inr (.inl ⟨c,y,List.mem_cons_of_mem _ h1,h2⟩)
      · exact .inr (.inr (.inl ⟨n,List.mem_cons_of_mem _ h1,h2⟩))
      · exact .inr (.inr (.inr (.inl ⟨n,o,List.mem_cons_of_mem _ h1,h2⟩)))
      · exact .inr (.inr (.inr (.inr (.inl ⟨n,lo,k,List.mem_cons_of_mem _ h1,h2⟩))))
      · exact .inr (.inr (.inr (.inr (.inr ⟨n,List.mem_cons_of_mem _ h1,h2⟩))))
  | .bot :: r,x,a,hs,h=>by
    rcases List.mem_cons.1 h with rfl | h
    · exact .inl rfl
    · rcases zfU (l:=r) (fun c hc=>hs c (List.mem_cons_of_mem _ hc)) h with h | ⟨c,y,h1,h2⟩ | ⟨n,h1,h2⟩ | ⟨n,o,h1,h2⟩ | ⟨n,lo,k,h1,h2⟩ | ⟨n,h1,h2⟩
      · exact .inl h
      · exact .inr (.inl ⟨c,y,List.mem_cons_of_mem _ h1,h2⟩)
      · exact .inr (.inr (.inl ⟨n,List.mem_cons_of_mem _ h1,h2⟩))
      · exact .inr (.inr (.inr (.inl ⟨n,o,List.mem_cons_of_mem _ h1,h2⟩)))
      · exact .inr (.inr (.inr (.inr (.inl ⟨n,lo,k,List.mem_cons_of_mem _ h1,h2⟩))))
      · exact .inr (.inr (.inr (.inr (.inr ⟨n,List.mem_cons_of_mem _ h1,h2⟩))))
  | .own m :: r,x,a,hs,h=>by
    rcases List.mem_cons.1 h with rfl | h
    · exact .inr (.inr (.inl ⟨m,List.mem_cons_self ..,rfl⟩))
    · rcases zfU (l:=r) (fun c hc=>hs c (List.mem_cons_of_mem _ hc)) h with h | ⟨c,y,h1,h2⟩ | ⟨n,h1,h2⟩ | ⟨n,o,h1,h2⟩ | ⟨n,lo,k,h1,h2⟩ | ⟨n,h1,h2⟩
      · exact .inl h
      · exact .inr (.inl ⟨c,y,List.mem_cons_of_mem _ h1,h2⟩)
      · exact .inr (.inr (.inl ⟨n,List.mem_cons_of_mem _ h1,h2⟩))
      · exact .inr (.inr (.inr (.inl ⟨n,o,List.mem_cons_of_mem _ h1,h2⟩)))
      · exact .inr (.inr (.inr (.inr (.inl ⟨n,lo,k,List.mem_cons_of_mem _ h1,h2⟩))))
      · exact .inr (.inr (.inr (.inr (.inr ⟨n,List.mem_cons_of_mem _ h1,h2⟩))))
  | .lp m q :: r,x,a,hs,h=>by
    rcases List.mem_cons.1 h with rfl | h
    · exact .inr (.inr (.inr (.inl ⟨m,q,List.mem_cons_self ..,rfl⟩)))
    · rcases zfU (l:=r) (fun c hc=>hs c (List.mem_cons_of_mem _ hc)) h with h | ⟨c,y,h1,h2⟩ | ⟨n,h1,h2⟩ | ⟨n,o,h1,h2⟩ | ⟨n,lo,k,h1,h2⟩ | ⟨n,h1,h2⟩
      · exact .inl h
      · exact .inr (.inl ⟨c,y,List.mem_cons_of_mem _ h1,h2⟩)
      · exact .inr (.inr (.inl ⟨n,List.mem_cons_of_mem _ h1,h2⟩))
      · exact .inr (.inr (.inr (.inl ⟨n,o,List.mem_cons_of_mem _ h1,h2⟩)))
      · exact .inr (.inr (.inr (.inr (.inl ⟨n,lo,k,List.mem_cons_of_mem _ h1,h2⟩))))
      · exact .inr (.inr (.inr (.inr (.inr ⟨n,List.mem_cons_of_mem _ h1,h2⟩))))
  | .win m :: r,x,a,hs,h=>by
    rcases List.mem_cons.1 h with rfl | h
    · exact .inr (.inr (.inr (.inr (.inl ⟨m,x.1,x.2.1,List.mem_cons_self ..,rfl⟩))))
    · rcases zfU (l:=r) (fun c hc=>hs c (List.mem_cons_of_mem _ hc)) h with h | ⟨c,y,h1,h2⟩ | ⟨n,h1,h2⟩ | ⟨n,o,h1,h2⟩ | ⟨n,lo,k,h1,h2⟩ | ⟨n,h1,h2⟩
      · exact .inl h
      · exact .inr (.inl ⟨c,y,List.mem_cons_of_mem _ h1,h2⟩)
      · exact .inr (.inr (.inl ⟨n,List.mem_cons_of_mem _ h1,h2⟩))
      · exact .inr (.inr (.inr (.inl ⟨n,o,List.mem_cons_of_mem _ h1,h2⟩)))
      · exact .inr (.inr (.inr (.inr (.inl ⟨n,lo,k,List.mem_cons_of_mem _ h1,h2⟩))))
      · exact .inr (.inr (.inr (.inr (.inr ⟨n,List.mem_cons_of_mem _ h1,h2⟩))))
  | .dp m :: r,x,a,hs,h=>by
    rcases List.mem_cons.1 h with rfl | h
    · exact .inr (.inr (.inr (.inr (.inr ⟨m,List.mem_cons_self ..,rfl⟩))))
    · rcases zfU (l:=r) (fun c hc=>hs c (List.mem_cons_of_mem _ hc)) h with h | ⟨c,y,h1,h2⟩ | ⟨n,h1,h2⟩ | ⟨n,o,h1,h2⟩ | ⟨n,lo,k,h1,h2⟩ | ⟨n,h1,h2⟩
      · exact .inl h
      · exact .inr (.inl ⟨c,y,List.mem_cons_of_mem _ h1,h2⟩)
      · exact .inr (.inr (.inl ⟨n,List.mem_cons_of_mem _ h1,h2⟩))
      · exact .inr (.inr (.inr (.inl ⟨n,o,List.mem_cons_of_mem _ h1,h2⟩)))
      · exact .inr (.inr (.inr (.inr (.inl ⟨n,lo,k,List.mem_cons_of_mem _ h1,h2⟩))))
      · exact .inr (.inr (.inr (.inr (.inr ⟨n,List.mem_cons_of_mem _ h1,h2⟩))))
  | .sp ks :: r,x,a,hs,h=>absurd trivial (hs _ (List.mem_cons_self ..))
  | .fn f kss :: r,x,a,hs,h=>absurd trivial (hs _ (List.mem_cons_self ..))
def zyI (x y:Cx) (f:Nat→Nat) (a:A1):Prop:=∀ v,A1Ok x a v→A1Ok y (a.ren f) v
theorem zck.go {x y:Cx} {f:Nat→Nat}:∀ {l:List A1} {vs:List Value},(∀ a∈l,zyI x y f a)→zck x l vs→zck y (zNQ f l) vs
  | [],[],_,_=>trivial
  | a :: _l,v :: _vs,h,⟨h1,h2,h3⟩=>⟨h a (List.mem_cons_self ..) v h1,h2,zck.go (fun b hb=>h b (List.mem_cons_of_mem _ hb)) h3⟩
  | [],_ :: _,_,h=>h.elim
  | _ :: _,[],_,h=>h.elim
theorem VOk.go {x y:Cx} {f:Nat→Nat} {g:Bool} {l:List A1} {v:Value} (h:∀ a∈l,zyI x y f a) (hv:VOk x g l v):VOk y g (zNQ f l) v:=by
  cases g with
  | true=>obtain ⟨vs,h1,h2⟩:=hv; exact ⟨vs,h1,h2.go h⟩
  | false =>
    obtain ⟨a,rfl,h2,h3⟩:=hv
    refine ⟨a.ren f,rfl,h a (List.mem_cons_self ..) v h2,?_⟩
    rcases h3 with rfl | h3
    · exact .inl rfl
    · exact .inr h3
theorem zKm {x y:Cx} {f:Nat→Nat}:∀ (res:List (Bool × List C1T)) (z:Tys (ksS (res.map some))) (vs:List Value),
    (∀ p∈res,∀ zz:Tys (ksL p.2),∀ a∈encL p.2 zz,zyI x y f a)→(encS (res.map some) z).length=vs.length →
    (∀ (j:Nat) av v,(encS (res.map some) z)[j]? = some av→vs[j]? = some v→zaR x av v)→zk7 y (zy2 f (encS (res.map some) z)) vs
  | [],z,[],_,_,_=>trivial
  | (b,l) :: r,z,v :: vs,h,hl,hv=>by
    have e:encS (List.map some ((b,l) :: r)) z = .v b (encL l (Tys.fst (ksL l) (ksS (r.map some)) z)) :: encS (r.map some) (Tys.snd (ksL l) (ksS (r.map some)) z):=rfl
    rw[e] at hl hv
    have h0:=hv 0 _ v rfl rfl
    refine ⟨VOk.go (fun a ha=>h (b,l) (List.mem_cons_self ..) _ a ha) h0,?_⟩
    exact zKm r (Tys.snd (ksL l) (ksS (r.map some)) z) vs (fun p hp=>h p (List.mem_cons_of_mem _ hp)) (by simpa using hl)
      (fun j av v h1 h2=>hv (j+1) av v (by simpa using h1) (by simpa using h2))
  | [],z,_ :: _,_,hl,_=>by
    have e:encS (List.map some ([]:List (Bool × List C1T))) z=[]:=rfl
    rw[e] at hl; simp at hl
  | (b,l) :: r,z,[],_,hl,_=>by
    have e:encS (List.map some ((b,l) :: r)) z = .v b (encL l (Tys.fst (ksL l) (ksS (r.map some)) z)) :: encS (r.map some) (Tys.snd (ksL l) (ksS (r.map some)) z):=rfl
    rw[e] at hl; simp at hl
theorem znx {f:Nat→Nat}:∀ (res:List (Bool × List C1T)) (z:Tys (ksS (res.map some))),(zy2 f (encS (res.map some) z)).length=res.length
  | [],_=>rfl
  | (b,l) :: r,z=>by
    show (zy2 f (encS (r.map some) _)).length+1=r.length+1
    rw[znx r]
theorem pack_ok {y:Cx} {tup:Bool} {ps:List (Bool × List A1)} {vs:Array Value} (h:zk7 y ps vs.toList) (ht:tup=false→ps.length=1):zaR y (zos tup ps) (zkI tup vs):=by
  cases tup with
  | true =>
    have:zos true ps = .tup ps:=by unfold zos; rfl
    rw[this]; exact ⟨vs,rfl,h⟩
  | false =>
    have hl:=ht rfl
    match ps,hl with
    | [(b, l)],_ =>
      cases hv:vs.toList with
      | nil=>rw[hv] at h; exact h.elim
      | cons v r =>
        rw[hv] at h
        have hd:vs.getD 0 undef=v:=by
          have:vs[0]? = some v:=by rw[← Array.getElem?_toList,hv]; rfl
          simp[Array.getD_eq_getD_getElem?,this]
        show VOk y b l (vs.getD 0 undef)
        rw[hd]; exact h.1
theorem zwn {ok:List Nat}:∀ {l:List C1T},zne ok l=true→(∀ n,C1T.own n∈l→n∈ok)∧(∀ n o,C1T.lp n o∈l→n∈ok)∧(∀ n,C1T.win n∈l→n∈ok)∧(∀ n,C1T.dp n∈l→n∈ok)∧∀ c∈l,¬ c.still
  | [],_=>⟨(fun n h=>by cases h),(fun n o h=>by cases h),(fun n h=>by cases h),(fun n h=>by cases h),(fun c h=>by cases h)⟩
  | c :: r,h=>by
    have rest:zne ok r=true:=by
      cases c<;>first | exact h | (cases h; done) | (simp only[zne] at h; split at h<;>first | exact h | cases h)
    have hst:¬ c.still:=by
      cases c<;>first | exact id | (cases h; done)
    have here:∀ n,(c = .own n∨(∃ o,c = .lp n o)∨c = .win n∨c = .dp n)→n∈ok:=by
      intro n hn
      rcases hn with rfl | ⟨o,rfl⟩ | rfl | rfl
      all_goals
        simp only[zne] at h
        split at h
        · rename_i hb; exact zaC.1 hb
        · cases h
    obtain ⟨r1,r2,r3,r4,r5⟩:=zwn rest
    refine ⟨fun n hm=>?_,fun n o hm=>?_,fun n hm=>?_,fun n hm=>?_,fun c' hm=>?_⟩
    · rcases List.mem_cons.1 hm with e | hm
      · exact here n (.inl e.symm)
      · exact r1 n hm
    · rcases List.mem_cons.1 hm with e | hm
      · exact here n (.inr (.inl ⟨o,e.symm⟩))
      · exact r2 n o hm
    · rcases List.mem_cons.1 hm with e | hm
      · exact here n (.inr (.inr (.inl e.symm)))
      · exact r3 n hm
    · rcases List.mem_cons.1 hm with e | hm
      · exact here n (.inr (.inr (.inr e.symm)))
      · exact r4 n hm
    · rcases List.mem_cons.1 hm with e | hm
      · rw[e]; exact hst
      · exact r5 c' hm
theorem zwm {ok:List Nat}:∀ {l:List (Bool × List C1T)},zFW ok l=true→∀ p∈l,zne ok p.2=true
  | (b,m) :: r,h,p,hp=>by
    unfold zFW at h
    split at h
    · rename_i hb
      rcases List.mem_cons.1 hp with rfl | hp
      · exact hb
      · exact zwm h p hp
    · cases h
theorem zwo {ok:List Nat}:∀ {l:List (Nat × ET)},zua ok l=true→∀ n m,(n,ET.box m)∈l→zne ok m=true
  | (k,e) :: r,h,n,m,hp=>by
    have rest:zua ok r=true:=by
      cases e<;>first | exact h | (simp only[zua] at h; split at h<;>first | exact h | cases h)
    rcases List.mem_cons.1 hp with hp | hp
    · cases hp
      simp only[zua] at h
      split at h
      · assumption
      · cases h
    · exact zwo rest n m hp
theorem zoC:∀ {l:List (Bool × List C1T)},zkg l=false→∀ p∈l,∀ c∈p.2,c.shares=false
  | (b,m) :: r,h,p,hp,c,hc=>by
    simp only[zkg,Bool.or_eq_false_iff] at h
    rcases List.mem_cons.1 hp with rfl | hp
    · have:=h.1
      rw[List.any_eq_false] at this
      simpa using this c hc
    · exact zoC h.2 p hp c hc
theorem zfG:∀ {l:List (Nat × ET)},zfO l=false→∀ n e,(n,e)∈l→(∀ m,e = .box m→∀ c∈m,c.shares=false)∧∀ fr t,e = .arr fr t→fr=false∧t.deep=false
  | (k,.box m) :: r,h,n,e,hp=>by
    simp only[zfO,Bool.or_eq_false_iff] at h
    rcases List.mem_cons.1 hp with hp | hp
    · cases hp
      refine ⟨fun m' e c hc=>?_,fun fr t e=>by cases e⟩
      cases e
      have:=h.1
      rw[List.any_eq_false] at this
      simpa using this c hc
    · exact zfG h.2 n e hp
  | (k,.arr fr t) :: r,h,n,e,hp=>by
    simp only[zfO,Bool.or_eq_false_iff] at h
    rcases List.mem_cons.1 hp with hp | hp
    · cases hp
      exact ⟨(fun m e=>by cases e),(fun fr' t' e=>by cases e; exact ⟨h.1,h.2.1⟩)⟩
    · exact zfG h.2.2 n e hp
  | (k,.deep t) :: r,h,n,e,hp=>by
    rcases List.mem_cons.1 hp with hp | hp
    · cases hp
      exact ⟨(fun m e=>by cases e),(fun fr' t' e=>by cases e)⟩
    · exact zfG (l:=r) h n e hp
  | (k,.pool) :: r,h,n,e,hp=>by
    rcases List.mem_cons.1 hp with hp | hp
    · cases hp
      exact ⟨(fun m e=>by cases e),(fun fr' t' e=>by cases e)⟩
    · exact zfG (l:=r) h n e hp
theorem zfV {n:Nat} {e:Ent}:∀ {l:List (Nat × ET)} {x:Tys (ksE l)},(∀ k,(k,ET.pool) ∉ l)→(n,e)∈zgE l x→(∃ m z,(n,ET.box m)∈l∧e = .box (encL m z))∨(∃ fr t xs,(n,ET.arr fr t)∈l∧e = .arr fr t xs)∨∃ t xs,(n,ET.deep t)∈l∧e = .deep false t xs
  | (k,.box m) :: r,x,hp,h=>by
    rcases List.mem_cons.1 h with h | h
    · cases h; exact .inl ⟨m,_,List.mem_cons_self ..,rfl⟩
    · rcases zfV (l:=r) (fun k hk=>hp k (List.mem_cons_of_mem _ hk)) h with ⟨m',z,h1,h2⟩ | ⟨fr,t,xs,h1,h2⟩ | ⟨t,xs,h1,h2⟩
      · exact .inl ⟨m',z,List.mem_cons_of_mem _ h1,h2⟩
      · exact .inr (.inl ⟨fr,t,xs,List.mem_cons_of_mem _ h1,h2⟩)
      · exact .inr (.inr ⟨t,xs,List.mem_cons_of_mem _ h1,h2⟩)
  | (k,.arr fr t) :: r,x,hp,h=>by
    rcases List.mem_cons.1 h with h | h
    · cases h; exact .inr (.inl ⟨fr,t,x.1,List.mem_cons_self ..,rfl⟩)
    · rcases zfV (l:=r) (fun k hk=>hp k (List.mem_cons_of_mem _ hk)) h with ⟨m',z,h1,h2⟩ | ⟨fr,t,xs,h1,h2⟩ | ⟨t,xs,h1,h2⟩
      · exact .inl ⟨m',z,List.mem_cons_of_mem _ h1,h2⟩
      · exact .inr (.inl ⟨fr,t,xs,List.mem_cons_of_mem _ h1,h2⟩)
      · exact .inr (.inr ⟨t,xs,List.mem_cons_of_mem _ h1,h2⟩)
  | (k,.deep t) :: r,x,hp,h=>by
    rcases List.mem_cons.1 h with h | h
    · cases h; exact .inr (.inr ⟨t,x.1,List.mem_cons_self ..,rfl⟩)
    · rcases zfV (l:=r) (fun k hk=>hp k (List.mem_cons_of_mem _ hk)) h with ⟨m',z,h1,h2⟩ | ⟨fr,t,xs,h1,h2⟩ | ⟨t,xs,h1,h2⟩
      · exact .inl ⟨m',z,List.mem_cons_of_mem _ h1,h2⟩
      · exact .inr (.inl ⟨fr,t,xs,List.mem_cons_of_mem _ h1,h2⟩)
      · exact .inr (.inr ⟨t,xs,List.mem_cons_of_mem _ h1,h2⟩)
  | (k,.pool) :: r,x,hp,h=>absurd (List.mem_cons_self ..) (hp k)
end Go.Di
open Go.RowKit (Below)
namespace Go.Di
section
variable {P:Program} {C:Bs} {w w':World} {s s':St} {X:Nat→Prop} {β β2:Nat→Option Value} {tm:Array Value}
theorem zyC {a b:Bool} (h:(a && b)=true):a=true∧b=true:=by cases a<;>cases b<;>simp_all
theorem zB8 {l m:List Nat} (h:zwx l m=true):∀ a∈l,a ∉ m:=by
  induction l with
  | nil=>intro a ha; cases ha
  | cons b r ih =>
    unfold zwx at h
    split at h
    · cases h
    · rename_i hb
      intro a ha hm
      rcases List.mem_cons.1 ha with rfl | ha
      · rw[zaC.2 hm] at hb; cases hb
      · exact ih h a ha hm
theorem zgG {L:List (Nat × Nat)} {p:Nat} {t:ST}:∀ {l:List (Nat × ET)},(p,ET.deep t)∈l→dcn (zaF L p)∈zh5 L l
  | (n,.deep u) :: r,h=>by
    rcases List.mem_cons.1 h with h | h
    · cases h; exact List.mem_cons_self ..
    · exact List.mem_cons_of_mem _ (zgG h)
  | (n,.box m) :: r,h=>by
    rcases List.mem_cons.1 h with h | h
    · cases h
    · exact zgG (l:=r) h
  | (n,.arr fr u) :: r,h=>by
    rcases List.mem_cons.1 h with h | h
    · cases h
    · exact zgG (l:=r) h
  | (n,.pool) :: r,h=>by
    rcases List.mem_cons.1 h with h | h
    · cases h
    · exact zgG (l:=r) h
theorem call_out {avs:List AV} {args vs:Array Value} {sg:Sig} {d:Nat} {xin:Tys sg.tin.ks} {y:Tys sg.zgF.ks}
    (g:Gam C s X β tm w) (ga:Gam C ⟨avs,s.ents⟩ NoX β args w) (h:Wk sg.shares ⟨avs,s.ents⟩ (sg.tin.enc xin) (zaF (sg.tin.src ⟨avs,s.ents⟩)))
    (hfine:sg.fine=true) (hports:zpN sg (sg.tin.src ⟨avs,s.ents⟩) d=true) (htup:sg.tup=false→sg.res.length=1)
    (hk:Kp (zqQ sg.shares C ⟨avs,s.ents⟩ (sg.tin.enc xin) (zaF (sg.tin.src ⟨avs,s.ents⟩)) β w).keep w w')
    (G:Gam (zqQ sg.shares C ⟨avs,s.ents⟩ (sg.tin.enc xin) (zaF (sg.tin.src ⟨avs,s.ents⟩)) β w) (sg.zgF.enc y) NoX β2 vs w') :
    ∃ β3,Gam C (zc7 s d sg (sg.tin.src ⟨avs,s.ents⟩) y).2 X β3 tm w' ∧
      zaR (cx C (zc7 s d sg (sg.tin.src ⟨avs,s.ents⟩) y).2 β3 w') (zc7 s d sg (sg.tin.src ⟨avs,s.ents⟩) y).1 (zkI sg.tup vs):=by
  generalize hL:sg.tin.src ⟨avs,s.ents⟩=L at *
  obtain ⟨hPN0,hfine⟩:=zyC hfine
  obtain ⟨nd,hf2⟩:=zyC hfine
  obtain ⟨hpinIn,hf3⟩:=zyC hf2
  obtain ⟨hmut,hf4⟩:=zyC hf3
  obtain ⟨hrefP,hrefE⟩:=zyC hf4
  obtain ⟨hnames,hstirB⟩:=zyC hports
  have hnames:=zfc hnames
  have hpi:∀ k,(k,ET.pool) ∉ sg.ins:=fun k hk=>by have:=zoi hmut hk; cases this
  have hPNo:PN ∉ namesT sg.outs:=fun h=>by
    have:=(zyC hPN0).2
    rw[zaC.2 h] at this; cases this
  have hpo:∀ k,(k,ET.pool) ∉ sg.outs:=fun k hk=>by
    rcases pinIn_ok hpinIn hk with ⟨_,⟨_,_,_,h0⟩ | ⟨_,_,h0⟩ | ⟨_,_,h0⟩⟩ | ⟨_,_,_,h0⟩
    · cases h0
    · cases h0
    · cases h0
    · exact h0 rfl
  -- names
  let f:=zby L d
  let O:=(sg.zgF.enc y).ents
  have hO:O=zgE sg.outs (Tys.snd (ksS (sg.res.map some)) (ksE sg.outs) y):=rfl
  have hnO:names O=namesT sg.outs:=zeS _ _
  have hndO:(names O).Nodup:=by rw[hnO]; exact zfc nd
  let l:=zKo f O
  have hnl:names l=(namesT sg.outs).map f:=by show names (zKo f O)=_; rw[zle,hnO]
  have hndl:(names l).Nodup:=by rw[hnl]; exact hnames
  let K:=(zj7 L (namesT sg.outs) sg.ins++zei f sg.outs)++zh5 L sg.ins
  have finj:∀ q q',q∈namesT sg.outs→q'∈namesT sg.outs→f q=f q'→q=q':=by
    have key:∀ (l:List Nat),(l.map f).Nodup→∀ q q',q∈l→q'∈l→f q=f q'→q=q':=by
      intro l
      induction l with
      | nil=>intro _ q _ hq; cases hq
      | cons a r ih =>
        intro hn q q' hq hq' he
        simp only[List.map_cons,List.nodup_cons] at hn
        rcases List.mem_cons.1 hq with e1 | e1<;>rcases List.mem_cons.1 hq' with e2 | e2
        · rw[e1,e2]
        · subst e1; exact absurd (List.mem_map.2 ⟨q',e2,he.symm⟩) hn.1
        · subst e2; exact absurd (List.mem_map.2 ⟨q,e1,he⟩) hn.1
        · exact ih hn.2 q q' e1 e2 he
    exact key _ hnames
  have fFresh:∀ q,q % 64≠63→f q=nm d+q:=by
    intro q hq
    have hb:Nat.beq (q % 64) 63=false:=by rw[Bool.eq_false_iff]; intro hb; exact hq (Nat.eq_of_beq_eq_true hb)
    show zby L d q=_
    unfold zby; rw[hb]
  have fPin:∀ q,q % 64=63→f q=zaF L q:=by
    intro q hq
    show zby L d q=_
    unfold zby; rw[hq]
  have insMut:∀ p t e,(p,t)∈sg.ins→look p (sg.tin.enc xin).ents=some e→e.mut=true:=by
    intro p t e hp he
    have he':=zwC (l:=(sg.tin.enc xin).ents) he
    rcases zfV (l:=sg.ins) hpi he' with ⟨m,z,_,rfl⟩ | ⟨fr,t',xs,h1,rfl⟩ | ⟨t',xs,h1,rfl⟩
    · rfl
    · have:=zoi hmut h1
      cases fr<;>simp_all [ET.mut,Ent.mut]
    · rfl
  have inLook:∀ p t,(p,t)∈sg.ins→∃ e,look p (sg.tin.enc xin).ents=some e:=by
    intro p t hp
    have:p∈names (sg.tin.enc xin).ents:=by
      have hh:names (sg.tin.enc xin).ents=namesT sg.ins:=zeS _ _
      rw[hh]; exact za2 hp
    have key:∀ (l:List (Nat × Ent)),p∈names l→∃ e,look p l=some e:=by
      intro l
      induction l with
      | nil=>intro h; cases h
      | cons q r ih =>
        intro h
        rw[show q=(q.1,q.2) from rfl,zas]
        by_cases hq:p=q.1
        · exact ⟨q.2,by rw[if_pos hq]⟩
        · rw[if_neg hq]
          simp only[names,List.map_cons,List.mem_cons] at h
          exact ih (h.resolve_left hq)
    exact key _ this
  -- a block of a port's entry belongs to a name that goes or comes back
  have portBlock:∀ b,Top (fun n=>look n (sg.tin.enc xin).ents) (fun n=>β (zaF L n)) b→∀ m e u,look m s.ents=some e→e.mut=true→β m=some u→b∈zaq u→m∈K∨m∈names l:=by
    rintro b ⟨p,e',v',h1,h2,h3,h4⟩ m e u k1 k2 k3 k4
    obtain ⟨e0,q1,q2⟩:=h.mut h1 h2
    have hm:m=zaF L p:=ga.uniq m (zaF L p) e e0 u v' b k1 q1 k2 q2 k3 h3 k4 h4
    obtain ⟨t,ht⟩:=zgn (l:=sg.ins) h1
    rcases zo0 (src:=L) (outs:=namesT sg.outs) ht with ⟨hp1,hp2⟩ | hg
    · right
      rw[hnl,hm,← fPin p hp1]
      exact List.mem_map.2 ⟨p,hp2,rfl⟩
    · left; rw[hm]; exact List.mem_append_left _ (List.mem_append_left _ hg)
  have topSub:∀ b,Top (fun n=>look n (sg.tin.enc xin).ents) (fun n=>β (zaF L n)) b→Top (fun n=>look n s.ents) β b:=fun b hb=>h.top hb
  -- in-out entries
  have inout : ∀ q t,(q,t)∈sg.outs→q % 64=63→∃ ti ein e,(q,ti)∈sg.ins∧look q (sg.tin.enc xin).ents=some ein∧look (zaF L q) s.ents=some e∧ein.mut=true ∧
      ((∃ l1 l2 l3,t = .box l1∧ein = .box l2∧e = .box l3)∨(∃ u xs,t = .arr false u∧ein = .arr false u xs∧e = .arr false u xs)∨∃ u xs,t = .deep u∧ein = .deep false u xs∧e = .deep false u xs):=by
    intro q t hq h63
    rcases pinIn_ok hpinIn hq with ⟨_,hc⟩ | ⟨hne,_⟩
    · have hfi : ∃ ti,zot q sg.ins=some ti∧((∃ l1 l2,ti = .box l1∧t = .box l2)∨(∃ u,ti = .arr false u∧t = .arr false u)∨∃ u,ti = .deep u∧t = .deep u):=by
        rcases hc with ⟨l1,l2,h1,h2⟩ | ⟨u,h1,h2⟩ | ⟨u,h1,h2⟩
        · exact ⟨_,h1,.inl ⟨l1,l2,rfl,h2⟩⟩
        · exact ⟨_,h1,.inr (.inl ⟨u,rfl,h2⟩)⟩
        · exact ⟨_,h1,.inr (.inr ⟨u,rfl,h2⟩)⟩
      obtain ⟨ti,h1,h2⟩:=hfi
      have hti:ti ≠ .pool:=by rintro rfl; exact hpi q (zgS h1)
      -- the entry that this name finds first
      have key : ∀ (ins:List (Nat × ET)) (z:Tys (ksE ins)),zot q ins=some ti→∃ ein,look q (zgE ins z)=some ein∧((∃ l1 l2,ti = .box l1∧ein = .box l2)∨(∃ fr u xs,ti = .arr fr u∧ein = .arr fr u xs)∨∃ u xs,ti = .deep u∧ein = .deep false u xs):=by
        intro ins
        induction ins with
        | nil=>intro z h; cases h
        | cons p r ih =>
          intro z hfe
          obtain ⟨k,e⟩:=p
          unfold zot at hfe
          cases hb:Nat.beq q k with
          | true =>
            rw[hb] at hfe; cases hfe
            have:=Nat.eq_of_beq_eq_true hb; subst this
            cases ti with
            | pool=>exact absurd rfl hti
            | box m=>exact ⟨_,by show look q ((q,_) :: _)=_; rw[zas,if_pos rfl],.inl ⟨m,_,rfl,rfl⟩⟩
            | arr fr u=>exact ⟨.arr fr u z.1,by show look q ((q,_) :: _)=_; rw[zas,if_pos rfl],.inr (.inl ⟨fr,u,z.1,rfl,rfl⟩)⟩
            | deep u=>exact ⟨.deep false u z.1,by show look q ((q,_) :: _)=_; rw[zas,if_pos rfl],.inr (.inr ⟨u,z.1,rfl,rfl⟩)⟩
          | false =>
            rw[hb] at hfe
            have hne:q≠k:=by rintro rfl; simp at hb
            cases e with
            | box m =>
              obtain ⟨ein,k1,k2⟩:=ih (Tys.snd (ksL m) (ksE r) z) hfe
              exact ⟨ein,by show look q ((k,_) :: _)=_; rw[zas,if_neg hne]; exact k1,k2⟩
            | arr fr u =>
              obtain ⟨ein,k1,k2⟩:=ih z.2 hfe
              exact ⟨ein,by show look q ((k,_) :: _)=_; rw[zas,if_neg hne]; exact k1,k2⟩
            | deep u =>
              obtain ⟨ein,k1,k2⟩:=ih z.2 hfe
              exact ⟨ein,by show look q ((k,_) :: _)=_; rw[zas,if_neg hne]; exact k1,k2⟩
            | pool =>
              obtain ⟨ein,k1,k2⟩:=ih z.2 hfe
              exact ⟨ein,by show look q ((k,_) :: _)=_; rw[zas,if_neg hne]; exact k1,k2⟩
      obtain ⟨ein,k1,k2⟩:=key sg.ins _ h1
      have k1':look q (sg.tin.enc xin).ents=some ein:=k1
      obtain ⟨e,k3,k4⟩:=h.ents q ein k1'
      refine ⟨ti,ein,e,zgS h1,k1',k3,insMut q ti ein (zgS h1) k1',?_⟩
      rcases h2 with ⟨l1,l2,rfl,rfl⟩ | ⟨u,rfl,rfl⟩ | ⟨u,rfl,rfl⟩
      · rcases k2 with ⟨l3,l4,_,rfl⟩ | ⟨fr,u,xs,h0,_⟩ | ⟨u,xs,h0,_⟩
        · rcases k4 with ⟨l5,l6,rfl,_,_⟩ | ⟨fr,u,xs,_,h0⟩ | ⟨u,xs,_,h0⟩ | ⟨_,_,h0⟩
          · exact .inl ⟨_,_,_,rfl,rfl,rfl⟩
          · cases h0
          · cases h0
          · cases h0
        · cases h0
        · cases h0
      · rcases k2 with ⟨l3,l4,h0,_⟩ | ⟨fr,u',xs,h0,rfl⟩ | ⟨u',xs,h0,_⟩
        · cases h0
        · cases h0
          rcases k4 with ⟨l5,l6,_,h0,_⟩ | ⟨fr,u',xs',rfl,h0⟩ | ⟨u',xs',_,h0⟩ | ⟨_,_,h0⟩
          · cases h0
          · cases h0; exact .inr (.inl ⟨u,xs,rfl,rfl,rfl⟩)
          · cases h0
          · cases h0
        · cases h0
      · rcases k2 with ⟨l3,l4,h0,_⟩ | ⟨fr,u',xs,h0,_⟩ | ⟨u',xs,h0,rfl⟩
        · cases h0
        · cases h0
        · cases h0
          rcases k4 with ⟨l5,l6,_,h0,_⟩ | ⟨fr,u',xs',_,h0⟩ | ⟨u',xs',rfl,h0⟩ | ⟨_,_,h0⟩
          · cases h0
          · cases h0
          · cases h0; exact .inr (.inr ⟨u,xs,rfl,rfl,rfl⟩)
          · cases h0
    · exact absurd h63 hne
  have pinVal:∀ q t,(q,t)∈sg.outs→q % 64=63→β2 q=β (f q):=by
    intro q t hq h63
    obtain ⟨ti,ein,e,_,k2,k3,_⟩:=inout q t hq h63
    rw[fPin q h63]
    have hs:=ga.bs (zaF L q) e k3
    cases hb:β (zaF L q) with
    | none=>rw[hb] at hs; cases hs
    | some u =>
      refine G.pin q u ?_ ?_
      · show (if q % 64=63∧q≠PN then β (zaF L q) else none)=some u
        rw[if_pos ⟨h63,fun e=>hPNo (e▸za2 hq)⟩,hb]
      · obtain ⟨p,hp⟩:∃ e',(q,e')∈O:=by
          have:q∈names O:=by rw[hnO]; exact za2 hq
          obtain ⟨p,hp,hq'⟩:=List.mem_map.1 this
          exact ⟨p.2,by rw[← hq']; exact hp⟩
        rw[show look q (sg.zgF.enc y).ents=some p from zwB hndO hp]; rfl
  let β3:Nat→Option Value:=fun m=>if m∈zei f sg.outs then β2 (m - nm d) else β m
  have β3at:∀ q t,(q,t)∈sg.outs→β3 (f q)=β2 q:=by
    intro q t hq
    by_cases h63:q % 64=63
    · have hnf:f q ∉ zei f sg.outs:=by
        intro hm
        obtain ⟨q',t',h1,h2,h3⟩:=zeU hm
        have:=finj q q' (za2 hq) (za2 h1) h3
        subst this; exact h2 h63
      show (if f q∈zei f sg.outs then _ else _)=_
      rw[if_neg hnf,pinVal q t hq h63]
    · have hm:f q∈zei f sg.outs:=zhv h63 hq
      show (if f q∈zei f sg.outs then _ else _)=_
      rw[if_pos hm,fFresh q h63,Nat.add_sub_cancel_left]
  have freshIn:∀ m,m∈zei f sg.outs→m∈names l∧m∈K:=by
    intro m hm
    obtain ⟨q,t,h1,h2,rfl⟩:=zeU hm
    exact ⟨by rw[hnl]; exact List.mem_map.2 ⟨q,za2 h1,rfl⟩,List.mem_append_left _ (List.mem_append_right _ hm)⟩
  have hβ:∀ m,m ∉ names l∨m ∉ K→β3 m=β m:=by
    intro m hm
    refine if_neg fun hmm=>?_
    obtain ⟨h1,h2⟩:=freshIn m hmm
    rcases hm with hm | hm
    · exact hm h1
    · exact hm h2
  have pinNotK:∀ q t,(q,t)∈sg.outs→q % 64=63→f q ∉ K:=by
    intro q t hq h63 hK
    rcases List.mem_append.1 hK with hK | hK
    rotate_left 1
    · exact zB8 hstirB _ hK (List.mem_map.2 ⟨q,za2 hq,rfl⟩)
    rcases List.mem_append.1 hK with hK | hK
    · obtain ⟨p,tp,h1,h2,h3⟩:=zgN hK
      rw[fPin q h63] at h2
      obtain ⟨ti,ein,e,q1,q2,q3,q4,_⟩:=inout q t hq h63
      obtain ⟨ep,hep⟩:=inLook p tp h1
      have:=h.inj q p ein ep q2 hep q4 (insMut p tp ep h1 hep) h2
      subst this
      exact h3 ⟨h63,za2 hq⟩
    · obtain ⟨q',t',h1,h2,h3⟩:=zeU hK
      have:=finj q q' (za2 hq) (za2 h1) h3
      subst this; exact h2 h63
  have keepOf:∀ b,b < w.heap.size→¬ Top (fun n=>look n (sg.tin.enc xin).ents) (fun n=>β (zaF L n)) b→w'.heap[b]? = w.heap[b]? := fun b h1 h2=>hk.block b ⟨h1,h2⟩
  have outT:∀ n e,(n,e)∈l→∃ q e0 t,(q,e0)∈O∧(q,t)∈sg.outs∧n=f q∧e=e0.ren f:=by
    intro n e hm
    obtain ⟨q,e0,h1,h2,h3⟩:=zwA hm
    have hq:q∈namesT sg.outs:=by rw[← hnO]; exact List.mem_map.2 ⟨_,h1,rfl⟩
    obtain ⟨t,ht⟩:=zeT hq
    exact ⟨q,e0,t,h1,ht,h2,h3⟩
  have renMut:∀ e0:Ent,(e0.ren f).mut=e0.mut:=fun e0=>by cases e0<;>rfl
  have lookO:∀ q e0,(q,e0)∈O→look q (sg.zgF.enc y).ents=some e0:=fun q e0 hq=>zwB hndO hq
  -- what data says goes over
  let S:St:=⟨(St.za1 K s).env,zhW l (St.za1 K s).ents⟩
  let x1:=cx (zqQ sg.shares C ⟨avs,s.ents⟩ (sg.tin.enc xin) (zaF L) β w) (sg.zgF.enc y) β2 w'
  let x2:=cx C S β3 w'
  have notK:∀ b,C.keep b→b < w.heap.size∧¬ Top (fun n=>look n (sg.tin.enc xin).ents) (fun n=>β (zaF L n)) b:=fun b hb=>⟨g.kb b hb,fun ht=>(g.fresh b (topSub b ht)).1 hb⟩
  have topS:∀ b,Top (fun n=>look n S.ents) β3 b→Top x1.lk x1.β b∨(b < w.heap.size∧¬ Top (fun n=>look n (sg.tin.enc xin).ents) (fun n=>β (zaF L n)) b∧Top (fun n=>look n s.ents) β b):=by
    rintro b ⟨n,e,v,h1,h2,h3,h4⟩
    rcases zbW l _ n e hndl h1 with hm | ⟨hm1,hm2⟩
    · obtain ⟨q,e0,t,k1,k2,rfl,rfl⟩:=outT n e hm
      left
      exact ⟨q,e0,v,lookO q e0 k1,by rwa [renMut] at h2,by show β2 q=some v; rw[← β3at q t k2]; exact h3,h4⟩
    · right
      obtain ⟨f1,f2,_⟩:=freeN_spec K s
      obtain ⟨q1,e0,q2,q3,_⟩:=f2 n e hm2
      rw[hβ n (.inl hm1)] at h3
      have hT:Top (fun n=>look n s.ents) β b:=⟨n,e0,v,q2,by rw[← q3]; exact h2,h3,h4⟩
      refine ⟨(g.fresh b hT).2,fun hp=>?_,hT⟩
      rcases portBlock b hp n e0 v q2 (by rw[← q3]; exact h2) h3 h4 with hh | hh
      · exact q1 hh
      · exact hm1 hh
  have avConv:∀ b,(¬ (zqQ sg.shares C ⟨avs,s.ents⟩ (sg.tin.enc xin) (zaF L) β w).keep b∨zvy true C ⟨avs,s.ents⟩ β w b)→¬ C.keep b∨C.old b:=by
    intro b hb
    rcases hb with hb | hb
    · exact .inl fun hk'=>hb (notK b hk')
    · exact hb.2.2
  have htk : zd1 β2=zd1 β3:=by
    have e1:zd1 β2=zd1 (fun n=>β (zaF L n)):=(G.tk _ rfl).1
    have e2:zd1 (fun n=>β (zaF L n))=zd1 β:=h.tk
    have e3 : β3 PN=β PN:=by
      by_cases hm:PN∈names l
      · refine hβ PN (.inr ?_)
        rw[hnl] at hm
        obtain ⟨q,hq,he⟩:=List.mem_map.1 hm
        obtain ⟨t,ht⟩:=zeT hq
        by_cases h63:q % 64=63
        · rw[← he]; exact pinNotK q t ht h63
        · rcases pinIn_ok hpinIn ht with ⟨h1,_⟩ | ⟨_,hlt,_⟩
          · exact absurd h1 h63
          · rw[fFresh q h63] at he
            exfalso
            have hp:PN % 64=63:=by decide
            rw[← he] at hp
            unfold nm at hp
            omega
      · exact hβ PN (.inl hm)
    rw[e1,e2]; funext i; simp only[zd1,e3]
  have rdConv:∀ u c,(sg.shares=false→bare c)→x1.rd u c→x2.rd u c:=by
    intro u c hc hr
    cases hs:sg.shares with
    | false=>exact zLo hr (zMT (hc hs)) fun i v hv=>(congrFun htk i).symm.trans hv
    | true =>
      obtain ⟨fp,h1,h2⟩:=hr
      refine ⟨fp,h1.more fun i v hv=>(congrFun htk i).symm.trans hv,fun b hb=>?_⟩
      obtain ⟨q1,q2,q3⟩:=h2 b hb
      have q3':¬ (zqQ sg.shares C ⟨avs,s.ents⟩ (sg.tin.enc xin) (zaF L) β w).keep b∨zvy true C ⟨avs,s.ents⟩ β w b:=by
        rcases q3 with q3 | q3
        · exact .inl q3
        · right
          have:zvy sg.shares C ⟨avs,s.ents⟩ β w b:=q3
          rw[hs] at this; exact this
      refine ⟨q1,fun ht=>?_,avConv b q3'⟩
      rcases topS b ht with hh | ⟨k1,k2,k3⟩
      · exact q2 hh
      · rcases q3' with q3' | q3'
        · exact q3' ⟨k1,k2⟩
        · exact q3'.2.1 k3
  have cellConv:∀ (m:List C1T),zne (namesT sg.outs) m=true→(sg.shares=false→∀ c∈m,c.shares=false)→∀ zz:Tys (ksL m),∀ a∈encL m zz,zyI x1 x2 f a:=by
    intro m hm hsh zz a ha v hv
    obtain ⟨r1,r2,r3,r4,r5⟩:=zwn hm
    have back:∀ n,n∈namesT sg.outs→β3 (f n)=β2 n∧∃ e0,(n,e0)∈O:=by
      intro n hn
      obtain ⟨t,ht⟩:=zeT hn
      refine ⟨β3at n t ht,?_⟩
      have:n∈names O:=by rw[hnO]; exact hn
      obtain ⟨p,hp,rfl⟩:=List.mem_map.1 this
      exact ⟨p.2,hp⟩
    rcases zfU r5 ha with rfl | ⟨c,yy,hc,rfl⟩ | ⟨n,hn,rfl⟩ | ⟨n,o,hn,rfl⟩ | ⟨n,lo,k,hn,rfl⟩ | ⟨n,hn,rfl⟩
    · trivial
    · refine rdConv v (c.cell yy) (fun hs=>?_) hv
      have:=hsh hs _ hc
      cases c<;>first | trivial | (simp[C1T.shares] at this)
    · obtain ⟨b1,e0,b2⟩:=back n (r1 n hn)
      intro fr t xs hl'
      have hl2:look (f n) (zhW l (St.za1 K s).ents)=some (e0.ren f):=zef l _ (f n) (e0.ren f) hndl (zpK b2)
      have hl3:some (e0.ren f)=some (.arr fr t xs):=by rw[← hl2]; exact hl'
      have he0:e0 = .arr fr t xs:=by
        cases e0 with
        | box m=>cases hl3
        | deep _ _ _=>cases hl3
        | pool _=>cases hl3
        | arr fr' t' xs'=>simpa [Ent.ren] using hl3
      show β3 (f n)=some v
      rw[b1]
      exact hv fr t xs (by show look n (sg.zgF.enc y).ents=_; rw[lookO n e0 b2,he0])
    · obtain ⟨b1,e0,b2⟩:=back n (r2 n o hn)
      intro _
      obtain ⟨b,k1,k2⟩:=hv (by show (look n (sg.zgF.enc y).ents).isSome=true; rw[lookO n e0 b2]; rfl)
      exact ⟨b,by show β3 (f n)=_; rw[b1]; exact k1,k2⟩
    · obtain ⟨b1,e0,b2⟩:=back n (r3 n hn)
      intro fr t xs hl'
      have hl2:look (f n) (zhW l (St.za1 K s).ents)=some (e0.ren f):=zef l _ (f n) (e0.ren f) hndl (zpK b2)
      have hl3:some (e0.ren f)=some (.arr fr t xs):=by rw[← hl2]; exact hl'
      have he0:e0 = .arr fr t xs:=by
        cases e0 with
        | box m=>cases hl3
        | deep _ _ _=>cases hl3
        | pool _=>cases hl3
        | arr fr' t' xs'=>simpa [Ent.ren] using hl3
      obtain ⟨k1,ad,mm,cap,k2,k3⟩:=hv fr t xs (by show look n (sg.zgF.enc y).ents=_; rw[lookO n e0 b2,he0])
      exact ⟨k1,ad,mm,cap,by show β3 (f n)=_; rw[b1]; exact k2,k3⟩
    · obtain ⟨b1,e0,b2⟩:=back n (r4 n hn)
      intro _
      obtain ⟨vs,k1,k2⟩:=hv (by show (look n (sg.zgF.enc y).ents).isSome=true; rw[lookO n e0 b2]; rfl)
      exact ⟨vs,by show β3 (f n)=_; rw[b1]; exact k1,k2⟩
  have entConv:∀ n e v,(n,e)∈l→β3 n=some v→EntOk x2 e v:=by
    intro n e v hm hv
    obtain ⟨q,e0,t,k1,k2,rfl,rfl⟩:=outT n e hm
    rw[β3at q t k2] at hv
    have he:=G.ents q e0 v (lookO q e0 k1) hv
    rcases zfV (l:=sg.outs) hpo k1 with ⟨m,z,h1,rfl⟩ | ⟨fr,tt,xs,h1,rfl⟩ | ⟨tt,xs,h1,rfl⟩
    rotate_left 2
    · exact DeepOk.go he fun _ _=>rfl
    · obtain ⟨b,us,T,q1,q2,q3⟩:=he
      refine ⟨b,us,T,q1,q2,zck.go (fun a ha=>cellConv m (zwo hrefE q m h1) (fun hs=>(zfG (by
        have:(zkg sg.res || zfO sg.outs)=false:=hs
        rw[Bool.or_eq_false_iff] at this; exact this.2) q _ h1).1 m rfl) z a ha) q3⟩
    · have hdeep:sg.shares=false→fr=false∧tt.deep=false:=fun hs=>(zfG (by
        have:(zkg sg.res || zfO sg.outs)=false:=hs
        rw[Bool.or_eq_false_iff] at this; exact this.2) q _ h1).2 fr tt rfl
      have hfr:fr=false:=by
        rcases pinIn_ok hpinIn h1 with ⟨_,⟨l1,l2,_,h0⟩ | ⟨u,_,h0⟩ | ⟨u,_,h0⟩⟩ | ⟨_,_,h0⟩
        · cases h0
        · cases h0; rfl
        · cases h0
        · cases fr with
          | false=>rfl
          | true=>exact absurd rfl (h0.1 tt)
      subst hfr
      rcases he with h0 | ⟨gb,cap,cur,T,k1,k2,k3,k4,k5,k6,k7⟩
      · exact .inl h0
      · refine .inr ⟨gb,cap,cur,T,k1,k2,k3,k4,k5,k6,fun i c hc=>?_⟩
        obtain ⟨u,hu,hr⟩:=k7 i c hc
        refine ⟨u,hu,rdConv u c (fun hs=>?_) hr⟩
        have:=zEa (hdeep hs).2 hc
        cases c<;>first | trivial | exact (this _ _ rfl).elim
  have hGam : Gam C S X β3 tm w':=by
    refine Gam.call g (K:=K) (l:=l) hndl (fun n e' hm=>?_) (fun n fr t xs hm hnK=>?_) hβ (fun b h1 h2=>keepOf b h1 fun hp=>h2 (topSub b hp)) (fun m e v k1 k2 k3 k4 k5 b hb=>keepOf b (g.fresh b ⟨m,e,v,k1,k2,k3,hb⟩).2 fun hp=>?_) hk.size
      (hk.mono notK) (fun n e v b hm hv hmu hb=>?_) (fun n m e e' v u b hm hm' hmu hmu' hv hu hb hb'=>?_) (fun n hn hK=>?_) (fun n hn=>?_) (fun _ n e v hm hv=>entConv n e v hm hv)
    · obtain ⟨q, e0,t,k1,k2,rfl,rfl⟩:=outT n e' hm
      by_cases h63:q % 64=63
      · right
        obtain ⟨ti,ein,e,_,p2,p3,_,p5⟩:=inout q t k2 h63
        rw[fPin q h63]
        refine ⟨e,p3,?_⟩
        have hst:∀ t2,(q,t2)∈sg.outs→t2=t:=by
          have key:∀ (l:List (Nat × ET)),(namesT l).Nodup→(q,t)∈l→∀ t2,(q,t2)∈l→t2=t:=by
            intro l
            induction l with
            | nil=>intro _ h; cases h
            | cons p r ih =>
              intro hn h1 t2 h2
              obtain ⟨pn,pe⟩:=p
              have hn':=List.nodup_cons.1 hn
              rcases List.mem_cons.1 h1 with j1 | j1<;>rcases List.mem_cons.1 h2 with j2 | j2
              · cases j1; cases j2; rfl
              · cases j1; exact absurd (za2 j2) hn'.1
              · cases j2; exact absurd (za2 j1) hn'.1
              · exact ih hn'.2 j1 t2 j2
          exact key sg.outs (zfc nd) k2
        rcases zfV (l:=sg.outs) hpo k1 with ⟨m,z,h1,rfl⟩ | ⟨fr,tt,xs,h1,rfl⟩ | ⟨tt,xs,h1,rfl⟩
        rotate_left 2
        · have := hst _ h1; subst this
          rcases p5 with ⟨l1,l2,l3,h0,_⟩ | ⟨u,ys,h0,_⟩ | ⟨u,ys,h0,_,rfl⟩
          · cases h0
          · cases h0
          · cases h0
            refine .inr (.inr ⟨tt,ys,xs,rfl,rfl,?_⟩)
            have hs:=ga.bs (zaF L q) _ p3
            cases hb:β (zaF L q) with
            | none=>rw[hb] at hs; cases hs
            | some v =>
              obtain ⟨u1,us1,r1,r2,_⟩:=ga.ents (zaF L q) _ v p3 hb
              obtain ⟨u2,us2,r3,r4,_⟩:=G.ents q _ v (lookO q _ k1) (by rw[pinVal q _ k2 h63,fPin q h63,hb])
              rw[r1] at r3
              have r5:us1=us2:=by
                have r6:=Value.tuple.inj r3
                simp at r6
                exact r6.2
              rw[r5,r4] at r2
              exact Nat.eq_of_mul_eq_mul_right (size_pos tt) r2
        · have:=hst _ h1; subst this
          rcases p5 with ⟨l1,l2,l3,_,_,rfl⟩ | ⟨u,xs,h0,_⟩ | ⟨u,xs,h0,_⟩
          · exact .inl ⟨l3,_,rfl,rfl⟩
          · cases h0
          · cases h0
        · have := hst _ h1; subst this
          rcases p5 with ⟨l1,l2,l3,h0,_⟩ | ⟨u,ys,h0,_,rfl⟩ | ⟨u,ys,h0,_⟩
          · cases h0
          rotate_left 1
          · cases h0
          · cases h0
            refine .inr (.inl ⟨tt,ys,xs,rfl,rfl,?_⟩)
            -- both are read off one value
            have hs:=ga.bs (zaF L q) _ p3
            cases hb:β (zaF L q) with
            | none=>rw[hb] at hs; cases hs
            | some v =>
              have e1:=ga.ents (zaF L q) _ v p3 hb
              have e2:=G.ents q _ v (lookO q _ k1) (by rw[pinVal q _ k2 h63,fPin q h63,hb])
              obtain ⟨ad,cap,q1,_⟩:=zoh e1
              obtain ⟨ad',cap',q2,_⟩:=zoh e2
              rw[q1] at q2
              simp only[Value.slice.injEq] at q2
              omega
      · left; exact List.mem_append_left _ (List.mem_append_right _ (zhv h63 k2))
    · obtain ⟨q,e0,t0,k1,k2,rfl,he⟩:=outT n _ hm
      have he0:e0 = .deep fr t xs:=by
        cases e0 with
        | box m=>cases he
        | arr _ _ _=>cases he
        | pool _=>cases he
        | deep fr' t' xs'=>exact he.symm
      subst he0
      rcases zfV (l:=sg.outs) hpo k1 with ⟨m,z,h1,h0⟩ | ⟨fr,tt,xs',h1,h0⟩ | ⟨tt,xs',h1,h0⟩
      · cases h0
      · cases h0
      · cases h0
        by_cases h63:q % 64=63
        · rcases pinIn_ok hpinIn h1 with ⟨_,⟨l1,l2,_,h0⟩ | ⟨u,_,h0⟩ | ⟨u,h2,h0⟩⟩ | ⟨hne,_⟩
          · cases h0
          · cases h0
          · cases h0
            rw[fPin q h63]
            exact List.mem_append_right _ (zgG (zgS h2))
          · exact absurd h63 hne
        · exact absurd (List.mem_append_left _ (List.mem_append_right _ (zhv h63 h1))) hnK
    · rcases portBlock b hp m e v k1 k2 k3 hb with hh | hh
      · exact k4 hh
      · exact k5 hh
    · obtain ⟨q,e0,t,k1,k2,rfl,rfl⟩:=outT n e hm
      rw[β3at q t k2] at hv
      have hT:Top x1.lk x1.β b:=⟨q,e0,v,lookO q e0 k1,by rwa [renMut] at hmu,hv,hb⟩
      obtain ⟨q1,q2⟩:=G.fresh b hT
      refine ⟨q2,?_⟩
      by_cases hlt:b < w.heap.size
      · right
        have hp:Top (fun n=>look n (sg.tin.enc xin).ents) (fun n=>β (zaF L n)) b:=Classical.byContradiction fun hp=>q1 ⟨hlt,hp⟩
        exact ⟨topSub b hp,fun m e1 u k1 k2 k3 k4=>portBlock b hp m e1 u k1 k2 k3 k4⟩
      · exact .inl (by omega)
    · obtain ⟨q,e0,t,k1,k2,rfl,rfl⟩:=outT n e hm
      obtain ⟨q',e0',t',k1',k2',rfl,rfl⟩:=outT m e' hm'
      rw[β3at q t k2] at hv; rw[β3at q' t' k2'] at hu
      rw[G.uniq q q' e0 e0' v u b (lookO q e0 k1) (lookO q' e0' k1') (by rwa [renMut] at hmu) (by rwa [renMut] at hmu') hv hu hb hb']
    · rw [hnl] at hn
      obtain ⟨q,hq,rfl⟩:=List.mem_map.1 hn
      obtain ⟨t,ht⟩:=zeT hq
      by_cases h63:q % 64=63
      · exact absurd hK (pinNotK q t ht h63)
      · rw[fFresh q h63]
        rcases pinIn_ok hpinIn ht with ⟨h0,_⟩ | ⟨_,hlt,_⟩
        · exact absurd h0 h63
        · unfold nm; omega
    · rw[hnl] at hn
      obtain ⟨q,hq,rfl⟩:=List.mem_map.1 hn
      obtain ⟨t,ht⟩:=zeT hq
      rw[β3at q t ht]
      have:q∈names O:=by rw[hnO]; exact hq
      obtain ⟨p,hp,rfl⟩:=List.mem_map.1 this
      exact G.bs p.1 p.2 (lookO p.1 p.2 hp)
  refine ⟨β3,hGam,?_⟩
  refine pack_ok (ps:=zy2 f (sg.zgF.enc y).env) ?_ fun ht=>?_
  · have hlen:(encS (sg.res.map some) (Tys.fst (ksS (sg.res.map some)) (ksE sg.outs) y)).length=vs.toList.length:=by
      have:=G.len
      rw[Array.length_toList]; exact this
    refine zKm (x:=x1) (y:=x2) sg.res _ vs.toList (fun p hp zz a ha=>cellConv p.2 (zwm hrefP p hp) (fun hs=>zoC (by
        have:(zkg sg.res || zfO sg.outs)=false:=hs
        rw[Bool.or_eq_false_iff] at this; exact this.1) p hp) zz a ha) hlen (fun j av v h1 h2=>?_)
    have hv:=G.env j av (fun h=>h) h1
    have:vs.getD j undef=v:=by
      have h2':vs[j]? = some v:=by rw[← Array.getElem?_toList]; exact h2
      simp[Array.getD_eq_getD_getElem?,h2']
    rw[this] at hv; exact hv
  · exact (znx sg.res _).trans (htup ht)
end
end Go.Di
open Go.RowKit (Below)
namespace Go.Di
section
variable {P:Program} {C:Bs} {w w':World} {s s':St} {X:Nat→Prop} {β β':Nat→Option Value} {a:Act} {o:Oper} {tm:Array Value}
  {t:TypeId} {x y:Operand} {i:TI} {K:Act→World→Prop} {Q:Exit→Act→World→Prop}
theorem store_pe (hL:zg1 P t i) (ho:o.op = .store t x y) (g:Gam C s X β a.tmps w) {n j off:Nat} {u:ST} {xs:List u.El} {e e':u.El} (hl:look n s.ents=some (.arr false u xs))
    (hx:zaR (cx C s β w) (.v false [.oe n j off]) (a.eval x)) (hlen:(a.eval y).cells.size=i.zero.length) (hfit':off+(a.eval y).cells.size≤u.size) (he:xs[j]? = some e)
    (hold:∀ (k:Nat) (c:Cell),(u.cells e')[k]? = some c→(k < off∨off+(a.eval y).cells.size≤k)→(u.cells e)[k]? = some c)
    (hel:∀ (k:Nat) (c:Cell),k < (a.eval y).cells.size→(u.cells e')[off+k]? = some c→∃ v,(a.eval y).cells[k]? = some v∧(cx C s β w).rd v c) (h1:∀ v∈(a.eval y).cells.toList,v.oneCell'=true)
    (hK:Goes C X o a .bot ⟨s.env,put n (.arr false u (xs.set j e')) s.ents⟩ K):o.wp P a w K Q:=by
  obtain ⟨a1,q1,q2,_⟩:=hx; cases q1
  obtain ⟨hj,gb,q,m,cap,hβ,hv⟩:=q2 false u xs hl
  have hent:=g.ents n _ _ hl hβ
  rcases hent with ⟨h0,_⟩ | ⟨g',cap',cur,T,k1,k2,k3,k4,k5,k6,k7⟩
  · subst h0; simp at hj
  cases k1
  have hpos:=size_pos u
  have hle:(j+1) * u.size≤cap * u.size:=Nat.mul_le_mul_right _ (by omega)
  rw[Nat.add_mul,Nat.one_mul] at hle
  have hfit:j * u.size+off+(a.eval y).cells.size≤cur.size:=by rw[k6]; omega
  have hv:a.eval x = .pointer (some ⟨gb,j * u.size+off,none⟩):=by rw[hv]; simp
  refine zhf (run_store hL ho hv k5 hlen hfit h1) (hK undef _ β ?_ zk6)
  have htop:gb∈zaq (.slice (some ⟨gb,0,none⟩) xs.length cap):=by cases cap with | zero=>omega | succ k=>simp[zaq]
  have hbt:¬ C.keep gb:=(g.fresh gb ⟨n,_,_,hl,rfl,hβ,htop⟩).1
  refine g.write hl (.inr ⟨u,xs,xs.set j e',rfl,rfl,by simp⟩) hβ (fun k hk=>setRow_other w gb k _ fun e'=>hk (by rw[e']; exact htop)) (by simp[World.setRow]) (below_setRow hbt _) fun hle=>?_
  refine .inr ⟨gb,cap,_,T,by simp,k2,by simpa using k3,k4,setRow_heap w gb cur _ T (0,0) k5,?_,fun idx c hc=>?_⟩
  · simp only[List.size_toArray,List.length_append,List.length_take,List.length_drop,Array.length_toList]; omega
  · rw [flat_set u e' xs j hj,zbS] at hc
    have hfl:=zaD u xs
    have hjl:(j+1) * u.size≤xs.length * u.size:=Nat.mul_le_mul_right _ (by omega)
    rw[Nat.add_mul,Nat.one_mul] at hjl
    have hlt:((flat u xs).take (j * u.size)).length=j * u.size:=by rw[List.length_take]; omega
    rw[hlt,zao] at hc
    simp only[List.getElem?_toArray]
    rw[zbS]
    have hlt':(cur.toList.take (j * u.size+off)).length=j * u.size+off:=by rw[List.length_take,Array.length_toList]; omega
    rw[hlt',Array.length_toList]
    -- a cell that stays
    have stay:∀ c,(flat u xs)[idx]? = some c→(idx < j * u.size+off∨j * u.size+off+(a.eval y).cells.size≤idx)→∃ v,(if idx < j * u.size+off then (cur.toList.take (j * u.size+off))[idx]? else if idx < j * u.size+off+(a.eval y).cells.size then (a.eval y).cells.toList[idx - (j * u.size+off)]? else (cur.toList.drop (j * u.size+off+(a.eval y).cells.size))[idx - (j * u.size+off) - (a.eval y).cells.size]?)=some v∧(cx C ⟨s.env,put n (.arr false u (xs.set j e')) s.ents⟩ β (w.setRow gb (cur.toList.take (j * u.size+off)++(a.eval y).cells.toList++cur.toList.drop (j * u.size+off+(a.eval y).cells.size)).toArray)).rd v c:=by
      intro c hc hout
      obtain ⟨v,hv,hr⟩:=k7 idx c hc
      refine ⟨v,?_,hle.rd hr⟩
      split
      · rename_i h; rw[List.getElem?_take_of_lt h]; simpa using hv
      · rename_i h
        rw[if_neg (by omega),List.getElem?_drop,show j * u.size+off+(a.eval y).cells.size+(idx - (j * u.size+off) - (a.eval y).cells.size)=idx from by omega]
        simpa using hv
    by_cases h:idx < j * u.size
    · rw[if_pos h,List.getElem?_take_of_lt h] at hc
      exact stay c hc (by omega)
    · rw [if_neg h] at hc
      by_cases h':idx < j * u.size+u.size
      · rw [if_pos h'] at hc
        have hin:∀ c,(u.cells e)[idx - j * u.size]? = some c→(flat u xs)[idx]? = some c:=fun c hh=>by
          have:=flat_get u xs j e (idx - j * u.size) he (by omega)
          rw[show j * u.size+(idx - j * u.size)=idx from by omega] at this
          rw[this]; exact hh
        by_cases hk:idx - j * u.size < off∨off+(a.eval y).cells.size≤idx - j * u.size
        · exact stay c (hin c (hold _ c hc hk)) (by omega)
        · obtain ⟨v,hv,hr⟩:=hel (idx - j * u.size - off) c (by omega) (by rw[show off+(idx - j * u.size - off)=idx - j * u.size from by omega]; exact hc)
          refine ⟨v,?_,hle.rd hr⟩
          rw[if_neg (by omega),if_pos (by omega),show idx - (j * u.size+off)=idx - j * u.size - off from by omega]
          simpa using hv
      · rw[if_neg h',List.getElem?_drop] at hc
        rw[show j * u.size+u.size+(idx - j * u.size - u.size)=idx from by omega] at hc
        exact stay c hc (by omega)
end
end Go.Di
open Go.RowKit (Below)
namespace Go.Di
theorem ze5 (t:ST) (x:Tys t.kinds):t.cells (t.mk x)=Tys.cells t.kinds x:=by cases t<;>rfl
theorem zij {es:List (Nat × Ent)} {t:ST} {l:List A1} {e:t.El} (h:elemOf es t l=some e):∃ x,asTys es t.kinds l=some x∧e=t.mk x:=by
  unfold elemOf at h
  split at h
  · rename_i x hx; cases h; exact ⟨x,hx,rfl⟩
  · cases h
theorem zf3 {es:List (Nat × Ent)}:∀ {ks:List CK} {l:List A1} {x:Tys ks},asTys es ks l=some x→∀ (k:Nat) (c:Cell),(Tys.cells ks x)[k]? = some c→∃ b ck z,l[k]? = some b∧b.as es ck=some z∧c=ck.cell z
  | [],[],_,_,k,c,h=>by simp[Tys.cells] at h
  | ck :: ks,b :: l,x,h,k,c,hk=>by
    obtain ⟨q1,q2⟩:=zlo h
    cases k with
    | zero=>simp only[Tys.cells,List.getElem?_cons_zero,Option.some.injEq] at hk; exact ⟨b,ck,x.1,rfl,q1,hk.symm⟩
    | succ k=>simp only[Tys.cells,List.getElem?_cons_succ] at hk; simpa using zf3 q2 k c hk
  | [],_ :: _,_,h,_,_,_=>by cases h
  | _ :: _,[],_,h,_,_,_=>by cases h
theorem zkS:∀ (l:List Cell) (k:Nat),(zbQ l)[k]? = (l[k]?).map A1.d
  | [],k=>by simp[zbQ]
  | c :: r,0=>by simp[zbQ]
  | c :: r,k+1=>by simp[zbQ,zkS r k]
theorem zsU:∀ {l:List A1},zzW l=true→∀ a∈l,∃ c,a = .d c∧c.zFF
  | [],_,a,h=>by cases h
  | b :: r,h,a,ha=>by
    have : (∃ c,b = .d c∧c.zFF)∧zzW r=true:=by
      cases b with
      | d c =>
        cases c with
        | sl t xs=>cases h
        | tok k=>cases h
        | any=>cases h
        | _=>exact ⟨⟨_,rfl,trivial⟩,h⟩
      | _=>cases h
    rcases List.mem_cons.1 ha with rfl | ha
    · exact this.1
    · exact zsU this.2 a ha
theorem zFd {u:ST} {e e':u.El} {k:Nat} {c c':Cell} (h:(u.cells e)[k]? = some c) (h':(u.cells e')[k]? = some c') (hb:c'.zFF):c.zFF:=by
  have kind:∀ (c:Cell) (e:u.El),(u.cells e)[k]? = some c→∃ ck,u.kinds[k]? = some ck∧∃ z,c=ck.cell z:=by
    intro c e h
    cases u<;>(rcases k with _ | _ | _ | _ | _ | _ | _ | _ | _ | k)<;>simp[ST.cells] at h<;>subst h<;>exact ⟨_,rfl,_,rfl⟩
  obtain ⟨ck,q1,z,rfl⟩:=kind c e h
  obtain ⟨ck',q1',z',rfl⟩:=kind c' e' h'
  rw[q1] at q1'; cases q1'
  cases ck with
  | sl t2=>exact hb.elim
  | tok=>exact hb.elim
  | any=>exact hb.elim
  | _=>trivial
theorem zhx (l m n:List Value):(l++m++n).flatMap zaE=l.flatMap zaE++m.flatMap zaE++n.flatMap zaE:=by simp
section
variable {P:Program} {C:Bs} {w w':World} {s s':St} {X:Nat→Prop} {β β':Nat→Option Value} {a:Act} {o:Oper} {tm:Array Value}
  {t:TypeId} {x y:Operand} {i:TI} {K:Act→World→Prop} {Q:Exit→Act→World→Prop}
theorem zoj {a:A1} {k:List Nat} {u:Value} (ha:A1Ok (cx C s β w) a u) (h:a.absorb s.ents=some k):∀ b∈zaE u,∃ m∈k,∃ v,β m=some v∧b∈zaq v:=by
  intro b hb
  rcases zfL h with ⟨m,ys,rfl,hl,rfl⟩ | ⟨rfl,rfl | ⟨c,rfl,hc⟩⟩
  · exact ⟨m,List.mem_singleton.2 rfl,u,ha false .int ys hl,zfF hb⟩
  · obtain ⟨ad,rfl⟩:=ha
    cases ad<;>simp[zaE] at hb
  · obtain ⟨fp,hr,_⟩:=ha
    cases hr with
    | int k n=>simp[zaE] at hb
    | bool b=>simp[zaE] at hb
    | str s=>simp[zaE] at hb
    | emp=>exact hc.elim
    | sl=>exact hc.elim
    | tok=>exact hc.elim
    | any=>exact hc.elim
theorem zks {es:List (Nat × Ent)}:∀ {l:List A1} {K:List Nat},zdp es l=some K→∀ {k:Nat} {a:A1},l[k]? = some a→∃ k1,a.absorb es=some k1∧∀ m∈k1,m∈K
  | [],_,_,k,a,h=>by simp at h
  | b :: r,K,h,k,a,ha=>by
    obtain ⟨k1,k2,e1,e2,rfl⟩:=zfi h
    cases k with
    | zero=>simp at ha; subst ha; exact ⟨k1,e1,fun m hm=>List.mem_append_left _ hm⟩
    | succ k =>
      obtain ⟨k3,h1,h2⟩:=zks e2 (by simpa using ha)
      exact ⟨k3,h1,fun m hm=>List.mem_append_right _ (h2 m hm)⟩
theorem store_de (hT:zg1 P t i) (ho:o.op = .store t x y) (g:Gam C s X β a.tmps w) {n j off:Nat} {c:List A1} {u:ST} {xs:List u.El} {Kn:List Nat}
    (hl:look n s.ents=some (.deep false u xs)) (hcan:u.zfZ=true) (habs:zdp s.ents c=some Kn) (hnd:Kn.Nodup) (hpin:n % 64=63→zzW c=true)
    (hx:zaR (cx C s β w) (.v false [.de n j off]) (a.eval x)) (hcv:zck (cx C s β w) c (a.eval y).cells.toList) (hlen:(a.eval y).cells.size=i.zero.length)
    {e e':u.El} (he:xs[j]? = some e) {l:List A1} (hp:patch off c (zbQ (u.cells e))=some l) (hel:elemOf s.ents u l=some e')
    (hK:Goes C X o a .bot ⟨(St.za1 (Kn++[dcn n]) s).env,put n (.deep false u (xs.set j e')) (St.za1 (Kn++[dcn n]) s).ents⟩ K):o.wp P a w K Q:=by
  obtain ⟨a1,q1,q2,_⟩:=hx; cases q1
  obtain ⟨hj,vs,gb,q,m,cap,hβ,hvs,hv⟩:=q2 false u xs hl
  obtain ⟨sv,us,e1,hus,hndT,hcd,hTop⟩:=g.ents n _ _ hl hβ
  cases e1
  have hs:sv = .slice (some ⟨gb,q,none⟩) m cap:=by simpa using hvs
  rcases hTop with ⟨h0,_⟩ | ⟨g',cap',cur,T,k1,k2,k3,k4,k5,k6,k7⟩
  · subst h0; simp at hj
  rw[hs] at k1
  cases k1
  obtain ⟨p1,p2⟩:=zfI _ _ _ _ hp
  rw[zcY,zao] at p1
  obtain ⟨xt,a1,rfl⟩:=zij hel
  have hcl:=hcv.length
  simp only[Array.length_toList] at hcl
  have hpos:=size_pos u
  have hle:(j+1) * u.size≤cap * u.size:=Nat.mul_le_mul_right _ (by omega)
  have hle2:(j+1) * u.size≤xs.length * u.size:=Nat.mul_le_mul_right _ (by omega)
  rw[Nat.add_mul,Nat.one_mul] at hle hle2
  have hfit:j * u.size+off+(a.eval y).cells.size≤cur.size:=by rw[k6]; omega
  have hv:a.eval x = .pointer (some ⟨gb,j * u.size+off,none⟩):=by rw[hv]; simp
  have htop:gb∈zaE sv:=by rw[hs]; cases cap with | zero=>omega | succ k=>simp[zaE]
  have hbn:gb∈zaq (.tuple (sv :: us).toArray):=List.mem_flatMap.2 ⟨sv,by simp,htop⟩
  have hbt:¬ C.keep gb:=(g.fresh gb ⟨n,_,_,hl,rfl,hβ,hbn⟩).1
  have hKm:∀ k∈Kn,∃ e,look k s.ents=some e∧e.mut=true:=fun k hk=>by
    obtain ⟨ys,h⟩:=zhS habs k hk; exact ⟨_,h,rfl⟩
  have hnK:n ∉ Kn:=fun hk=>by obtain ⟨ys,h⟩:=zhS habs n hk; rw[hl] at h; cases h
  obtain ⟨r1,r2⟩:=ziq g hcv habs hnd
  have hrl:(zor c (a.eval y).cells.toList).length=c.length:=zfQ (by simpa using hcl)
  -- blocks of what goes over are not of the array
  have apart:∀ b m v,m∈Kn→β m=some v→b∈zaq v→b ∉ zaq (.tuple (sv :: us).toArray):=fun b m v hm h1 h2 h3=>by
    obtain ⟨e2,f1,f2⟩:=hKm m hm
    have:=g.uniq m n e2 _ v _ b f1 hl f2 rfl h1 hβ h2 h3
    subst this; exact hnK hm
  have hlt:((zbQ (u.cells e)).take off).length=off:=by rw[List.length_take,zcY,zao]; omega
  -- what lies beside the patch is as it was
  have hold:∀ (k:Nat) (cc:Cell),(u.cells (u.mk xt))[k]? = some cc→(k < off∨off+c.length≤k)→(u.cells e)[k]? = some cc:=fun k cc hk hout=>by
    rw[ze5] at hk
    obtain ⟨b,ck,z,h1,h2,rfl⟩:=zf3 a1 k cc hk
    have hb:(zbQ (u.cells e))[k]? = some b:=by
      rw[p2,zbS,hlt] at h1
      rcases hout with h | h
      · rw[if_pos h,List.getElem?_take_of_lt h] at h1; exact h1
      · rw[if_neg (by omega),if_neg (by omega),List.getElem?_drop,show off+c.length+(k - off - c.length)=k from by omega] at h1; exact h1
    rw[zkS] at hb
    cases hc:(u.cells e)[k]? with
    | none=>rw[hc] at hb; cases hb
    | some c0 =>
      rw[hc] at hb
      simp only[Option.map_some,Option.some.injEq] at hb
      subst hb
      have h2:ck.get c0=some z:=by cases ck<;>exact h2
      rw[zfw h2]
  have hnew:∀ (k:Nat) (cc:Cell),k < c.length→(u.cells (u.mk xt))[off+k]? = some cc→∃ b ck z,c[k]? = some b∧b.as s.ents ck=some z∧cc=ck.cell z:=fun k cc hk h=>by
    rw[ze5] at h
    obtain ⟨b,ck,z,h1,h2,rfl⟩:=zf3 a1 _ cc h
    rw[p2,zbS,hlt,if_neg (by omega),if_pos (by omega),show off+k - off=k from by omega] at h1
    exact ⟨b,ck,z,h1,h2,rfl⟩
  refine zhf (run_store hT ho hv k5 hlen hfit hcv.one) (hK undef _ (upd β n (.tuple (sv :: (us.take (j * u.size+off)++zor c (a.eval y).cells.toList++us.drop (j * u.size+off+c.length))).toArray)) ?_ zk6)
  have hus1:j * u.size+off+c.length≤us.length:=by rw[hus]; omega
  have hul:(us.take (j * u.size+off)).length=j * u.size+off:=by rw[List.length_take]; omega
  have hsub1:∀ v∈us.take (j * u.size+off),v∈us:=fun v hv=>List.mem_of_mem_take hv
  have hsub2:∀ v∈us.drop (j * u.size+off+c.length),v∈us:=fun v hv=>List.mem_of_mem_drop hv
  have hin:∀ v∈us,∀ b∈zaE v,b∈zaq (.tuple (sv :: us).toArray):=fun v hv b hb=>List.mem_flatMap.2 ⟨v,by simp[hv],hb⟩
  have hndT':(zaE sv).Nodup∧(us.flatMap zaE).Nodup∧∀ b∈zaE sv,b ∉ us.flatMap zaE:=by
    rw[List.flatMap_cons] at hndT
    have:=List.nodup_append.1 hndT
    exact ⟨this.1,this.2.1,fun b h1 h2=>this.2.2 b h1 b h2 rfl⟩
  have hsplit:us=us.take (j * u.size+off)++(us.drop (j * u.size+off)).take c.length++us.drop (j * u.size+off+c.length):=by
    conv=>lhs; rw[← List.take_append_drop (j * u.size+off) us,← List.take_append_drop c.length (us.drop (j * u.size+off)),List.drop_drop]
    simp
  refine g.zvs hl hβ hKm hnK (by simp) (by simp) (fun h63=>?_) (fun b _ hb=>setRow_other w gb b _ fun e'=>hb (by rw[e']; exact hbn)) (by simp[World.setRow]) (below_setRow hbt _) (fun b hb=>?_) (fun yc hyw=>?_)
  · -- a lent array: nothing has turned
    have hba:=zsU (hpin h63)
    congr 2
    refine List.ext_getElem? fun idx=>?_
    rw[zbS,hul,hrl]
    split
    · rename_i h; rw[List.getElem?_take_of_lt h]
    · rename_i h
      split
      · rename_i h'
        have hk:idx - (j * u.size+off) < c.length:=by omega
        obtain ⟨b,hb⟩:∃ b,c[idx - (j * u.size+off)]? = some b:=⟨_,List.getElem?_eq_getElem hk⟩
        obtain ⟨v,hv,_⟩:=hcv.get hb
        rw[ziM hb hv]
        obtain ⟨c0,rfl,hc0⟩:=hba b (List.mem_of_getElem? hb)
        obtain ⟨cc,hcc⟩:∃ cc,(u.cells (u.mk xt))[off+(idx - (j * u.size+off))]? = some cc:=⟨_,List.getElem?_eq_getElem (by rw[zao]; omega)⟩
        obtain ⟨b',ck,z,h1,h2,h3⟩:=hnew _ cc hk hcc
        rw[hb] at h1; cases h1
        have h4:c0=ck.cell z:=zfw (by cases ck<;>exact h2)
        obtain ⟨c1,hc1⟩:∃ c1,(u.cells e)[off+(idx - (j * u.size+off))]? = some c1:=⟨_,List.getElem?_eq_getElem (by rw[zao]; omega)⟩
        have hb1:=zFd hc1 hcc (by rw[h3,← h4]; exact hc0)
        have hf:=flat_get u xs j e (off+(idx - (j * u.size+off))) he (by omega)
        rw[hc1,show j * u.size+(off+(idx - (j * u.size+off)))=idx from by omega] at hf
        obtain ⟨z1,b1,z2,z3,z4⟩:=k7 idx c1 hf
        rw[z3]
        cases c1 with
        | sl t xs=>exact hb1.elim
        | tok k=>exact hb1.elim
        | any=>exact hb1.elim
        | _=>rw[z4.1]; rfl
      · rename_i h'
        rw[List.getElem?_drop,show j * u.size+off+c.length+(idx - (j * u.size+off) - c.length)=idx from by omega]
  · have hb:b∈(sv :: (us.take (j * u.size+off)++zor c (a.eval y).cells.toList++us.drop (j * u.size+off+c.length))).flatMap zaE:=hb
    rw[List.flatMap_cons,zhx] at hb
    simp only[List.mem_append] at hb
    rcases hb with hb | (hb | hb) | hb
    · exact .inl (List.mem_flatMap.2 ⟨sv,by simp,hb⟩)
    · obtain ⟨v,h1,h2⟩:=List.mem_flatMap.1 hb; exact .inl (hin v (hsub1 v h1) b h2)
    · obtain ⟨m,hm,v,h1,h2⟩:=r2 b hb; exact .inr ⟨m,hm,v,h1,h2⟩
    · obtain ⟨v,h1,h2⟩:=List.mem_flatMap.1 hb; exact .inl (hin v (hsub2 v h1) b h2)
  · refine ⟨sv,_,rfl,?_,?_,hcd,.inr ⟨gb,cap,_,T,?_,k2,by simpa using k3,k4,by rw[hyw]; exact setRow_heap w gb cur _ T (0,0) k5,?_,fun idx cc hc=>?_⟩⟩
    · simp only[List.length_append,List.length_take,List.length_drop,List.length_set,hrl]; omega
    · rw [List.flatMap_cons,zhx]
      have o2:=hndT'.2.1
      rw[hsplit,zhx] at o2
      have n1:=List.nodup_append.1 o2
      have n2:=List.nodup_append.1 n1.1
      have far:∀ b∈(zor c (a.eval y).cells.toList).flatMap zaE,b ∉ zaq (.tuple (sv :: us).toArray):=fun b hb=>by
        obtain ⟨m,hm,v,h1,h2⟩:=r2 b hb; exact apart b m v hm h1 h2
      have m1:∀ b∈(us.take (j * u.size+off)).flatMap zaE,b∈us.flatMap zaE:=fun b hb=>by
        obtain ⟨v,h1,h2⟩:=List.mem_flatMap.1 hb; exact List.mem_flatMap.2 ⟨v,hsub1 v h1,h2⟩
      have m2:∀ b∈(us.drop (j * u.size+off+c.length)).flatMap zaE,b∈us.flatMap zaE:=fun b hb=>by
        obtain ⟨v,h1,h2⟩:=List.mem_flatMap.1 hb; exact List.mem_flatMap.2 ⟨v,hsub2 v h1,h2⟩
      have up:∀ b∈us.flatMap zaE,b∈zaq (.tuple (sv :: us).toArray):=fun b hb=>by
        obtain ⟨v,h1,h2⟩:=List.mem_flatMap.1 hb; exact hin v h1 b h2
      refine List.nodup_append.2 ⟨hndT'.1,List.nodup_append.2 ⟨List.nodup_append.2 ⟨n2.1,r1,fun b h1 b' h2 he=>?_⟩,n1.2.1,fun b h1 b' h2 he=>?_⟩,fun b h1 b' h2 he=>?_⟩
      · subst he; exact far b h2 (up b (m1 b h1))
      · subst he
        rcases List.mem_append.1 h1 with h1 | h1
        · exact n1.2.2 b (List.mem_append_left _ h1) b h2 rfl
        · exact far b h1 (up b (m2 b h2))
      · subst he
        rcases List.mem_append.1 h2 with h2 | h2
        · rcases List.mem_append.1 h2 with h2 | h2
          · exact hndT'.2.2 b h1 (m1 b h2)
          · exact far b h2 (List.mem_flatMap.2 ⟨sv,by simp,h1⟩)
        · exact hndT'.2.2 b h1 (m2 b h2)
    · rw[hs]; simp
    · simp only[List.size_toArray,List.length_append,List.length_take,List.length_drop,Array.length_toList]; omega
    · rw [flat_set u _ xs j hj,zbS] at hc
      have hfl:=zaD u xs
      have hlt2:((flat u xs).take (j * u.size)).length=j * u.size:=by rw[List.length_take]; omega
      rw[hlt2,zao] at hc
      simp only[List.getElem?_toArray]
      rw[zbS,zbS]
      have hlt':(cur.toList.take (j * u.size+off)).length=j * u.size+off:=by rw[List.length_take,Array.length_toList]; omega
      rw[hlt',Array.length_toList,hul,hrl]
      have stay:∀ c0,(flat u xs)[idx]? = some c0→(idx < j * u.size+off∨j * u.size+off+c.length≤idx)→∃ z b,(if idx < j * u.size+off then (cur.toList.take (j * u.size+off))[idx]? else if idx < j * u.size+off+(a.eval y).cells.size then (a.eval y).cells.toList[idx - (j * u.size+off)]? else (cur.toList.drop (j * u.size+off+(a.eval y).cells.size))[idx - (j * u.size+off) - (a.eval y).cells.size]?)=some z ∧
          (if idx < j * u.size+off then (us.take (j * u.size+off))[idx]? else if idx < j * u.size+off+c.length then (zor c (a.eval y).cells.toList)[idx - (j * u.size+off)]? else (us.drop (j * u.size+off+c.length))[idx - (j * u.size+off) - c.length]?)=some b∧zcB yc z c0 b:=by
        intro c0 hc0 hout
        obtain ⟨z,b,h1,h2,h3⟩:=k7 idx c0 hc0
        refine ⟨z,b,?_,?_,h3.go fun k hk=>?_⟩
        · split
          · rename_i h; rw[List.getElem?_take_of_lt h]; simpa using h1
          · rename_i h
            rw[if_neg (by omega),List.getElem?_drop,show j * u.size+off+(a.eval y).cells.size+(idx - (j * u.size+off) - (a.eval y).cells.size)=idx from by omega]
            simpa using h1
        · split
          · rename_i h; rw[List.getElem?_take_of_lt h]; exact h2
          · rename_i h
            rw[if_neg (by omega),List.getElem?_drop,show j * u.size+off+c.length+(idx - (j * u.size+off) - c.length)=idx from by omega]
            exact h2
        · rw[hyw]
          refine setRow_other w gb k _ fun e'=>?_
          subst e'
          exact hndT'.2.2 k htop (List.mem_flatMap.2 ⟨b,List.mem_of_getElem? h2,hk⟩)
      by_cases h:idx < j * u.size
      · rw[if_pos h,List.getElem?_take_of_lt h] at hc
        exact stay cc hc (by omega)
      · rw [if_neg h] at hc
        by_cases h':idx < j * u.size+u.size
        · rw [if_pos h'] at hc
          have hin2:∀ c0,(u.cells e)[idx - j * u.size]? = some c0→(flat u xs)[idx]? = some c0:=fun c0 hh=>by
            have:=flat_get u xs j e (idx - j * u.size) he (by omega)
            rw[show j * u.size+(idx - j * u.size)=idx from by omega] at this
            rw[this]; exact hh
          by_cases hk:idx - j * u.size < off∨off+c.length≤idx - j * u.size
          · exact stay cc (hin2 cc (hold _ cc hc hk)) (by omega)
          · obtain ⟨b,ck,z,h1,h2,rfl⟩:=hnew (idx - j * u.size - off) cc (by omega) (by rw[show off+(idx - j * u.size - off)=idx - j * u.size from by omega]; exact hc)
            obtain ⟨v,hv,hok,_⟩:=hcv.get h1
            obtain ⟨k1,ha1,ha2⟩:=zks habs h1
            refine ⟨v,zFB b v,?_,?_,zsZ g hok ha1 h2 (fun t2 xs2 hh=>zff hcan (by rw[← hh]; exact hc)) fun k hk=>?_⟩
            · rw[if_neg (by omega),if_pos (by omega),show idx - (j * u.size+off)=idx - j * u.size - off from by omega]
              exact hv
            · rw[if_neg (by omega),if_pos (by omega),show idx - (j * u.size+off)=idx - j * u.size - off from by omega]
              exact ziM h1 hv
            · rw[hyw]
              refine setRow_other w gb k _ fun e'=>?_
              subst e'
              obtain ⟨m,hm,v2,h3,h4⟩:=zoj hok ha1 k hk
              exact apart k m v2 (ha2 m hm) h3 h4 hbn
        · rw[if_neg h',List.getElem?_drop] at hc
          rw[show j * u.size+u.size+(idx - j * u.size - u.size)=idx from by omega] at hc
          exact stay cc hc (by omega)
end
end Go.Di
open Go.RowKit (Below)
namespace Go.Di
theorem zcB.one {x:Cx} {u b:Value} {c:Cell} (h:zcB x u c b):u.oneCell'=true:=by
  cases c with
  | sl t xs =>
    cases t with
    | int=>rcases h.2 with ⟨_,ad,rfl⟩ | ⟨_,_,_,_,rfl,_⟩<;>rfl
    | rat =>
      obtain ⟨us,_,_,h⟩:=h
      rcases h with ⟨_,ad,rfl⟩ | ⟨_,_,_,_,rfl,_⟩<;>rfl
    | _=>exact h.elim
  | tok k=>exact h.elim
  | any=>exact h.elim
  | _=>obtain ⟨fp,hr,_⟩:=h.2; exact hr.zhm
theorem zG1 {x:Cx} {fr:Bool} {t:ST} {xs:List t.El} {vs:Array Value} {v:Value} (h:EntOk x (.deep fr t xs) (.tuple vs)) (h0:vs[0]? = some v) (hne:0 < xs.length):∃ g cap,v = .slice (some ⟨g,0,none⟩) xs.length cap:=by
  cases fr with
  | false =>
    obtain ⟨sv,us,e1,_,_,_,hT⟩:=h
    cases e1
    have hs:sv=v:=by simpa using h0
    subst hs
    rcases hT with ⟨h1,_⟩ | ⟨gb,cap,cur,T,k1,_⟩
    · subst h1; simp at hne
    · exact ⟨gb,cap,k1⟩
  | true =>
    obtain ⟨sv,us,e1,_,hT⟩:=h
    cases e1
    have hs:sv=v:=by simpa using h0
    subst hs
    rcases hT with ⟨h1,_⟩ | ⟨gb,cap,k1,_⟩
    · subst h1; simp at hne
    · exact ⟨gb,cap,k1⟩
theorem zAP {t:ST} (ht:t.zfZ=true) {z:t.El} (hz:ziL t=some z) {vs:List Value} (hv:zOk (zeroOf t) vs=true) :
    (∀ (x:Cx) (j:Nat) (c:Cell),(t.cells z)[j]? = some c→∃ v b,vs[j]? = some v∧(zor (zeroOf t) vs)[j]? = some b∧zcB x v c b)∧∀ b∈zor (zeroOf t) vs,zaE b=[]:=by
  have hcor:∀ (j:Nat) a,(zeroOf t)[j]? = some a→∃ c,(t.cells z)[j]? = some c∧((a = .d c∧c.zFF)∨(a = .mt∧c = .sl .int [])):=by
    intro j a h1
    cases t<;>cases ht<;>cases hz <;>
      (rcases j with _ | _ | _ | _ | _ | _ | _ | _ | _ | j)<;>cases h1<;>first | exact ⟨_,rfl,.inl ⟨rfl,trivial⟩⟩ | exact ⟨_,rfl,.inr ⟨rfl,rfl⟩⟩
  have hlen:(zeroOf t).length=(t.cells z).length:=by rw[zao]; cases t<;>rfl
  have hok:∀ x:Cx,zck x (zeroOf t) vs:=fun x=>zmb hv
  refine ⟨fun x j c hc=>?_,fun b hb=>?_⟩
  · have hj:j < (zeroOf t).length:=by rw[hlen]; exact (List.getElem?_eq_some_iff.1 hc).1
    obtain ⟨v,h1,h2,_⟩:=(hok x).get (List.getElem?_eq_getElem hj)
    refine ⟨v,_,h1,ziM (List.getElem?_eq_getElem hj) h1,?_⟩
    obtain ⟨c',q1,q2⟩:=hcor j _ (List.getElem?_eq_getElem hj)
    rw[hc] at q1; cases q1
    rcases q2 with ⟨q2,q3⟩ | ⟨q2,rfl⟩
    · rw[q2] at h2 ⊢
      cases c with
      | sl t xs=>exact q3.elim
      | tok k=>exact q3.elim
      | any=>exact q3.elim
      | _=>exact ⟨rfl,h2⟩
    · rw[q2] at h2 ⊢
      exact ⟨rfl,.inl ⟨rfl,h2⟩⟩
  · obtain ⟨j,hj,rfl⟩:=List.getElem_of_mem hb
    let x:Cx:=⟨default,fun _=>none,fun _=>none,fun _=>True⟩
    have hl:=(hok x).length
    rw[zfQ hl] at hj
    obtain ⟨v,h1,h2,_⟩:=(hok x).get (List.getElem?_eq_getElem hj)
    have h3:=ziM (List.getElem?_eq_getElem hj) h1
    rw[List.getElem?_eq_getElem (by rw[zfQ hl]; exact hj)] at h3
    have h3:=Option.some.inj h3
    rw[h3]
    obtain ⟨c',q1,q2⟩:=hcor j _ (List.getElem?_eq_getElem hj)
    rcases q2 with ⟨q2,q3⟩ | ⟨q2,rfl⟩
    · rw[q2]; rfl
    · rw[q2] at h2 ⊢; obtain ⟨ad,rfl⟩:=h2; cases ad<;>rfl
theorem zFG {l:List Value} (h:∀ b∈l,zaE b=[]):l.flatMap zaE=[]:=by
  induction l with
  | nil=>rfl
  | cons a r ih=>rw[List.flatMap_cons,h a (List.mem_cons_self ..),ih fun b hb=>h b (List.mem_cons_of_mem _ hb)]; rfl
section
variable {P:Program} {C:Bs} {w w':World} {s s':St} {X:Nat→Prop} {β β':Nat→Option Value} {a:Act} {o:Oper} {tm:Array Value}
  {t:TypeId} {x y:Operand} {i:TI} {K:Act→World→Prop} {Q:Exit→Act→World→Prop}
theorem Gam.zhl (g:Gam C s X β tm w) {n:Nat} {u:ST} {xs:List u.El} {vs:Array Value} {K:List Nat} (hnm:n % 64≠63)
    (hKm:∀ k∈K,∃ e,look k s.ents=some e∧e.mut=true)
    (hw:∀ b,b < w.heap.size→(∀ k∈K,∀ z,β k=some z→b ∉ zaq z)→w'.heap[b]? = w.heap[b]?) (hsz:w.heap.size≤w'.heap.size) (hbel:Kp C.keep w w')
    (htop:∀ b∈zaq (.tuple vs),(w.heap.size≤b∧b < w'.heap.size)∨∃ k∈K,∃ z,β k=some z∧b∈zaq z)
    (hent:∀ y:Cx,y.w=w'→DeepOk y u xs (.tuple vs)) :
    Gam C ((St.za1 K s).push n (.deep false u xs)) X (upd β n (.tuple vs)) tm w':=by
  have hTop:∀ k∈K,∀ z,β k=some z→∀ b∈zaq z,Top (fun n=>look n s.ents) β b:=fun k hk z hz b hb=>by
    obtain ⟨e,e1,e2⟩:=hKm k hk; exact ⟨k,e,z,e1,e2,hz,hb⟩
  have own:∀ k∈K,∀ z,β k=some z→∀ b∈zaq z,∀ m e0 v,look m s.ents=some e0→e0.mut=true→β m=some v→b∈zaq v→m=k:=fun k hk z hz b hb m e0 v h1 h2 h3 h4=>by
    obtain ⟨e,e1,e2⟩:=hKm k hk
    exact g.uniq m k e0 e v z b h1 e1 h2 e2 h3 hz h4 hb
  have := g.call (K:=K++[n]) (l:=[(n,.deep false u xs)]) (β':=upd β n (.tuple vs)) (w':=w') (by simp[names])
    (fun m e' hm=>by simp only[List.mem_singleton] at hm; cases hm; exact .inl (by simp))
    (fun m fr t ys hm hk=>by simp only[List.mem_singleton] at hm; cases hm; exact absurd (by simp) hk)
    (fun m hm=>zax β _ (by
      rcases hm with hm | hm
      · simpa [names] using hm
      · exact fun e=>hm (by rw[e]; simp)))
    (fun b hlt hnt=>hw b hlt fun k hk z hz hb=>hnt (hTop k hk z hz b hb))
    (fun m e v h1 h2 h3 hk _ b hb=>hw b (g.fresh b ⟨m,e,v,h1,h2,h3,hb⟩).2 fun k hkk z hz hbz=>by
      have:=own k hkk z hz b hbz m e v h1 h2 h3 hb
      subst this; exact hk (List.mem_append_left _ hkk))
    hsz hbel
    (fun m e v b hm hv _ hb=>by
      simp only[List.mem_singleton] at hm; cases hm
      rw[upd_same] at hv; cases hv
      rcases htop b hb with h | ⟨k,hk,z,hz,hbz⟩
      · exact ⟨h.2,.inl h.1⟩
      · have hT:=hTop k hk z hz b hbz
        refine ⟨Nat.lt_of_lt_of_le (g.fresh b hT).2 hsz,.inr ⟨hT,fun m e0 v h1 h2 h3 h4 => .inl ?_⟩⟩
        rw[own k hk z hz b hbz m e0 v h1 h2 h3 h4]; exact List.mem_append_left _ hk)
    (fun m m' e f v v' b hm hm' _ _ _ _ _ _=>by simp only[List.mem_singleton] at hm hm'; cases hm; cases hm'; rfl)
    (fun m hm _=>by simp[names] at hm; rw[hm]; exact hnm) (fun m hm=>by simp[names] at hm; rw[hm,upd_same]; rfl)
    (fun _ m e v hm hv=>by
      simp only[List.mem_singleton] at hm; cases hm
      rw[upd_same] at hv; cases hv
      exact hent _ rfl)
  rw[zie] at this
  exact this
theorem zsd (hL:zg1 P t i) {f:Nat} (ho:o.op = .fieldAddr t x f) (g:Gam C s X β a.tmps w) (hst:i.strct=true) {off k:Nat} {ag:Bool} (hf:i.fields[f]? = some (off,k,ag)) {n j q:Nat} {fr:Bool} {u:ST} {xs:List u.El}
    (hl:look n s.ents=some (.deep fr u xs)) (hx:zaR (cx C s β w) (.v false [.de n j q]) (a.eval x)) (hK:Goes C X o a (.one (.de n j (q+off))) s K):o.wp P a w K Q:=by
  obtain ⟨a1,h1,h2,_⟩:=hx; cases h1
  obtain ⟨hj,vs,gb,q',m,cap,hb,hb0,hv⟩:=h2 fr u xs hl
  refine zal (av := .one (.de n j (q+off))) (zfv hL ho hst hf hv) g (zbT (a := .de n j (q+off)) (fun fr' u' xs' hl'=>?_) rfl) hK
  have:look n s.ents=some (.deep fr' u' xs'):=hl'
  rw[hl] at this; cases this
  exact ⟨hj,vs,gb,q',m,cap,hb,hb0,by rw[Nat.add_assoc]⟩
theorem zrV (hL:zg1 P t i) {e:ST} (he:i.elem=some e) (ho:o.op = .indexAddr t x y) (g:Gam C s X β a.tmps w) {n:Nat} {fr:Bool} {xs:List e.El} {j:Int} {el:e.El}
    (hl:look n s.ents=some (.deep fr e xs)) (hx:zaR (cx C s β w) (.v false [.dp n]) (a.eval x)) (hy:a.eval y = .int .i64 j) (hel:idx xs j=some el) (hK:Goes C X o a (.one (.de n j.toNat 0)) s K):o.wp P a w K Q:=by
  obtain ⟨a1,h1,h2,_⟩:=hx; cases h1
  obtain ⟨h0,hlt,hget⟩:=zmM hel
  obtain ⟨vs,hb,hb0⟩:=h2 (by simp[cx,hl])
  obtain ⟨gb,cap,hv⟩:=zG1 (g.ents n _ _ hl hb) hb0 (by omega)
  refine zal (av := .one (.de n j.toNat 0)) (zfu hL he ho hv hy h0 hlt) g (zbT (a := .de n j.toNat 0) (fun fr' u' xs' hl'=>?_) rfl) hK
  have:look n s.ents=some (.deep fr' u' xs'):=hl'
  rw[hl] at this; cases this
  exact ⟨by omega,_,gb,0,xs.length,cap,hb,by rw[hb0,hv],by simp⟩
theorem make_deep (hL:zg1 P t i) (ho:o.op = .makeSlice t x y) (g:Gam C s X β a.tmps w) (d:Nat) {e:ST} (he:i.elem=some e) (hcd:e.zfZ=true) {z:e.El} (hz:ziL e=some z) {k1 k2:IntKind} {n m:Int}
    (hx:a.eval x = .int k1 n) (hy:a.eval y = .int k2 m) (h0:0≤n) (h1:n≤m) (h2:m≤(zan:Int))
    (hK:Goes C X o a (.one (.dp (nm d))) (s.push (nm d) (.deep false e (List.replicate n.toNat z))) K):o.wp P a w K Q:=by
  obtain ⟨inf,d',z',hi,hu,hs,hag,hz',hzo,_,hel,_⟩:=hL
  obtain ⟨E,rfl,einf,ez,q1,q2,q3,q4,q5⟩:=hel e he
  have hmax:m≤68719476736:=h2
  have hbytes:(einf.bytes:Int) * m≤281474976710656:=by
    have:(einf.bytes:Int) * m≤256 * 68719476736:=Int.mul_le_mul (by omega) hmax (by omega) (by omega)
    omega
  have hr:=run_make (P:=P) w t E einf ez hu q1 q4 k1 k2 n m h0 h1 hbytes (by omega)
  rw[q2] at hr
  have hsz:ez.cells.size=e.size:=zh4 (_E:=E) q5
  obtain ⟨zc,zt⟩:=zAP hcd hz q5
  have hpos:=size_pos e
  let us:List Value:=(List.range (n.toNat * e.size)).map fun j=>(zor (zeroOf e) ez.cells.toList).getD (j % e.size) (.bool false)
  have hut:∀ b∈us,zaE b=[]:=fun b hb=>by
    obtain ⟨j,_,rfl⟩:=List.mem_map.1 hb
    rw[List.getD_eq_getElem?_getD]
    cases h:(zor (zeroOf e) ez.cells.toList)[j % e.size]? with
    | none=>rfl
    | some b=>exact zt b (List.mem_of_getElem? h)
  have hsv:∀ b∈zaE (.slice (some ⟨w.heap.size,0,none⟩) n.toNat m.toNat),b=w.heap.size:=fun b hb=>by
    cases hm:m.toNat with
    | zero=>rw[hm] at hb; simp[zaE] at hb
    | succ k=>rw[hm] at hb; simpa [zaE] using hb
  have hvt:∀ v:Value,(v :: us).flatMap zaE=zaE v:=fun v=>by rw[List.flatMap_cons,zFG hut,List.append_nil]
  have gp : Gam C ((St.za1 [] s).push (nm d) (.deep false e (List.replicate n.toNat z))) X (upd β (nm d) (.tuple (.slice (some ⟨w.heap.size,0,none⟩) n.toNat m.toNat :: us).toArray)) a.tmps
      (w.alloc (.cells (madeCells ez.cells (m.toNat * e.size)) E)):=by
    refine g.zhl (zfd d) (fun k hk=>by cases hk) (fun b hlt _=>(zaU w _).block b hlt) (zaU w _).size (Kp.of (zaU w _) g.kb) (fun b hb=>?_) (fun yc hyw=>?_)
    · have hb:b∈(Value.slice (some ⟨w.heap.size,0,none⟩) n.toNat m.toNat :: us).flatMap zaE:=hb
      rw[hvt] at hb
      have:=hsv b hb
      subst this; exact .inl ⟨Nat.le_refl _,by simp⟩
    · refine ⟨_,us,rfl,by simp[us],by rw[hvt]; exact zeO (zdD ..),zkY hcd,?_⟩
      by_cases hm:m.toNat=0
      · have hn:n.toNat=0:=by omega
        exact .inl ⟨by simp[hn],_,by rw[hn,hm]⟩
      · refine .inr ⟨w.heap.size,m.toNat,_,E,by simp,by omega,by simp; omega,by unfold maxLen; omega,by rw[hyw]; exact heap_alloc w _,by simp[madeCells],fun j c hc=>?_⟩
        have hj:=(List.getElem?_eq_some_iff.1 hc).1
        rw[zaD,List.length_replicate] at hj
        rw[zj8 e z _ j hj] at hc
        obtain ⟨v,b,hv,hb,hd⟩:=zc yc _ c hc
        have hle2:n.toNat * e.size≤m.toNat * e.size:=Nat.mul_le_mul_right _ (by omega)
        refine ⟨v,b,?_,?_,hd⟩
        · rw[zkN _ _ _ (by omega),hsz]
          simp only[Array.getElem?_toList] at hv
          simp[getElem!_def,hv]
        · simp only[us,List.getElem?_map,List.getElem?_range hj,Option.map_some,List.getD_eq_getElem?_getD,hb,Option.getD_some]
  refine zdX (v := .slice (some ⟨w.heap.size,0,none⟩) n.toNat m.toNat) (w':=w.alloc (.cells (madeCells ez.cells (m.toNat * e.size)) E)) ?_ (hK _ _ _ gp ?_)
  · simp[execOp,ho,hx,hy,hr]
  · exact zbT (a := .dp (nm d)) (fun _=>⟨_,upd_same ..,by simp⟩) rfl
/-! ### Appends -/
theorem zsj {x:Cx} {t:ST} {xs:List t.El} {sv:Value} {us:List Value} (h:DeepTop x t xs sv us) :
    ∃ news,ztP x.w sv xs.length t.size news∧∀ (j:Nat) (c:Cell),(flat t xs)[j]? = some c→∃ u b,news[j]? = some u∧us[j]? = some b∧zcB x u c b:=by
  rcases h with ⟨rfl,ad,rfl⟩ | ⟨gb,cap,cur,T,rfl,k2,k3,k4,k5,k6,k7⟩
  · exact ⟨[],⟨by simp,(fun u hu=>by cases hu),.inl ⟨rfl,ad,0,rfl⟩⟩,fun j c hc=>by simp[flat] at hc⟩
  · have hle:xs.length * t.size≤cap * t.size:=Nat.mul_le_mul_right _ k3
    have hget:∀ j c,(flat t xs)[j]? = some c→∃ u b,(cur.toList.take (xs.length * t.size))[j]? = some u∧us[j]? = some b∧zcB x u c b:=fun j c hc=>by
      have hj:=(List.getElem?_eq_some_iff.1 hc).1
      rw[zaD] at hj
      obtain ⟨u,b,h1,h2,h3⟩:=k7 j c hc
      exact ⟨u,b,by rw[List.getElem?_take_of_lt hj]; simpa using h1,h2,h3⟩
    have hlen:(cur.toList.take (xs.length * t.size)).length=xs.length * t.size:=by
      have h9:cur.toList.length=cur.size:=rfl
      rw[List.length_take,h9]; omega
    refine ⟨cur.toList.take (xs.length * t.size),⟨hlen,fun u hu=>?_,.inr ⟨gb,0,cap,rfl,fun j u hj=>?_⟩⟩,hget⟩
    · obtain ⟨j,hj,rfl⟩:=List.getElem_of_mem hu
      rw[hlen] at hj
      obtain ⟨v,b,h1,_,h3⟩:=hget j _ (List.getElem?_eq_getElem (by rw[zaD]; exact hj))
      rw[List.getElem?_eq_getElem (by rw[hlen]; exact hj)] at h1
      cases h1
      exact h3.one
    · have hj':=(List.getElem?_eq_some_iff.1 hj).1
      rw[hlen] at hj'
      rw[List.getElem?_take_of_lt hj'] at hj
      rw[Nat.zero_add,cell_of_row _ _ j cur T (0,0) k5]
      simpa using hj
theorem zsS {y:Cx} {t:ST} {xs ys:List t.El} {olds news rest ua ub:List Value} {cur:Array Value} (hc:cur.toList=olds++news++rest) (hl:olds.length=xs.length * t.size) (hn:news.length=ys.length * t.size) (hla:ua.length=xs.length * t.size)
    (h1:∀ (j:Nat) (c:Cell),(flat t xs)[j]? = some c→∃ u b,olds[j]? = some u∧ua[j]? = some b∧zcB y u c b) (h2:∀ (j:Nat) (c:Cell),(flat t ys)[j]? = some c→∃ u b,news[j]? = some u∧ub[j]? = some b∧zcB y u c b) :
    ∀ (i:Nat) (c:Cell),(flat t (xs++ys))[i]? = some c→∃ u b,cur[i]? = some u∧(ua++ub)[i]? = some b∧zcB y u c b:=by
  intro i c hi
  have hlt:=(List.getElem?_eq_some_iff.1 hi).1
  rw[zhw,List.length_append,zaD,zaD] at hlt
  rw[zhw] at hi
  rw[← Array.getElem?_toList,hc,zbS]
  by_cases h:i < olds.length
  · rw[List.getElem?_append_left (by rw[zaD]; omega)] at hi
    rw[if_pos h,List.getElem?_append_left (by omega)]; exact h1 i c hi
  · rw[List.getElem?_append_right (by rw[zaD]; omega),zaD] at hi
    rw[if_neg h,if_pos (by omega),hl,List.getElem?_append_right (by omega),hla]; exact h2 _ c hi
theorem append_deep (hL:zg1 P t i) {e:ST} (he:i.elem=some e) (hcd:e.znX=true) (ho:o.op = .call { callee := .builtin .append,args:=#[x,y],argTypes:=#[t,t] }) (g:Gam C s X β a.tmps w) (d:Nat) {Kn:List Nat} {xs ys:List e.El}
    {va vb:Value} {ua ub:List Value} (hx:a.eval x=va) (hy:a.eval y=vb) (hA:DeepTop (cx C s β w) e xs va ua) (hB:DeepTop (cx C s β w) e ys vb ub) (hla:ua.length=xs.length * e.size) (hlb:ub.length=ys.length * e.size)
    (hna:((va :: ua).flatMap zaE).Nodup) (hnb:((vb :: ub).flatMap zaE).Nodup) (hdis:∀ b∈(va :: ua).flatMap zaE,b ∉ (vb :: ub).flatMap zaE)
    (hTa:∀ b∈(va :: ua).flatMap zaE,∃ k∈Kn,∃ z,β k=some z∧b∈zaq z) (hTb:∀ b∈(vb :: ub).flatMap zaE,∃ k∈Kn,∃ z,β k=some z∧b∈zaq z)
    (hKm:∀ k∈Kn,∃ e,look k s.ents=some e∧e.mut=true) (hmax:xs.length+ys.length≤zan)
    (hK:Goes C X o a (.one (.dp (nm d))) ((St.za1 Kn s).push (nm d) (.deep false e (xs++ys))) K):o.wp P a w K Q:=by
  obtain ⟨inf,d',z',hi,hu,_,_,_,_,_,hel,_⟩:=hL
  obtain ⟨E,rfl,einf,ez,q1,q2,q3,q4,q5⟩:=hel e he
  obtain ⟨news,hn,hnr⟩:=zsj hB
  rw[← q2] at hn
  have hmx:xs.length+ys.length≤68719476736:=hmax
  rw[List.flatMap_cons] at hna hnb
  have na:=List.nodup_append.1 hna
  have nb:=List.nodup_append.1 hnb
  -- blocks inside
  have small:∀ b∈(va :: ua).flatMap zaE++(vb :: ub).flatMap zaE,b < w.heap.size∧∃ k∈Kn,∃ z,β k=some z∧b∈zaq z:=fun b hb=>by
    have:∃ k∈Kn,∃ z,β k=some z∧b∈zaq z:=(List.mem_append.1 hb).elim (hTa b) (hTb b)
    obtain ⟨k,hk,z,hz,hbz⟩:=this
    obtain ⟨e0,e1,e2⟩:=hKm k hk
    exact ⟨(g.fresh b ⟨k,e0,z,e1,e2,hz,hbz⟩).2,k,hk,z,hz,hbz⟩
  have inA:∀ b∈ua.flatMap zaE,b∈(va :: ua).flatMap zaE:=fun b hb=>by rw[List.flatMap_cons]; exact List.mem_append_right _ hb
  have inB:∀ b∈ub.flatMap zaE,b∈(vb :: ub).flatMap zaE:=fun b hb=>by rw[List.flatMap_cons]; exact List.mem_append_right _ hb
  have ndab:(ua.flatMap zaE++ub.flatMap zaE).Nodup:=List.nodup_append.2 ⟨na.2.1,nb.2.1,fun b h1 c h2 e=>by subst e; exact hdis b (inA b h1) (inB b h2)⟩
  have fm:∀ v:Value,(v :: (ua++ub)).flatMap zaE=zaE v++(ua.flatMap zaE++ub.flatMap zaE):=fun v=>by simp
  have inAB:∀ b∈ua.flatMap zaE++ub.flatMap zaE,b < w.heap.size∧∃ k∈Kn,∃ z,β k=some z∧b∈zaq z:=fun b hb=>small b (by
    rcases List.mem_append.1 hb with h | h
    · exact List.mem_append_left _ (inA b h)
    · exact List.mem_append_right _ (inB b h))
  have lenAB:(ua++ub).length=(xs++ys).length * e.size:=by rw[List.length_append,List.length_append,hla,hlb,Nat.add_mul]
  have memu:∀ {us:List Value} {j:Nat} {b:Value},us[j]? = some b→∀ k∈zaE b,k∈us.flatMap zaE:=fun h k hk=>List.mem_flatMap.2 ⟨_,List.mem_of_getElem? h,hk⟩
  have fin:∀ (v:Value) (w':World),(Builtin.append_ #[t,t] o.type #[va,vb]).run P w = .ok v w'→v.oneCell'=true →
      Gam C ((St.za1 Kn s).push (nm d) (.deep false e (xs++ys))) X (upd β (nm d) (.tuple (v :: (ua++ub)).toArray)) a.tmps w'→o.wp P a w K Q:=fun v w' hr h1 gp =>
    zdX (zb8 (_ty:=o.type) ho hx hy hr) (hK _ _ _ gp (zbT (a := .dp (nm d)) (fun _=>⟨_,upd_same ..,by simp⟩) h1))
  -- in new memory
  have grow:∀ (olds:List Value) (ad:Option Addr) (cap0:Nat),va = .slice ad xs.length cap0→(Builtin.firstCells einf.size xs.length (.slice ad xs.length cap0)).run P w.drew = .ok olds.toArray w.drew→cap0 < xs.length+ys.length →
      olds.length=xs.length * e.size→(∀ (j:Nat) (c:Cell),(flat e xs)[j]? = some c→∃ u b,olds[j]? = some u∧ua[j]? = some b∧zcB (cx C s β w) u c b)→o.wp P a w K Q:=by
    intro olds ad cap0 hva hfo hg hol hor
    obtain ⟨cap',hcap,hcm',hr⟩:=zd2 (P:=P) (ty:=o.type) (w:=w) hu q1 q4 hfo hn (by omega) (by omega) (by calc (xs.length+ys.length) * einf.bytes≤68719476736 * 256:=Nat.mul_le_mul hmx q3
      _≤_:=by decide)
    rw[← hva] at hr
    have hbel:Below w.heap.size w (w.drew.alloc (.cells (olds.toArray++news.toArray++Builtin.zeroCells ez.cells (cap' - (xs.length+ys.length))) E)):=((Below.refl _ _).drew).alloc (Nat.le_refl _) _
    have hnewtop:∀ b∈zaE (.slice (some ⟨w.heap.size,0,none⟩) (xs.length+ys.length) cap'),b=w.heap.size:=fun b hb=>by
      cases cap' with
      | zero=>omega
      | succ k=>simpa [zaE] using hb
    refine fin _ _ hr rfl (g.zhl (zfd d) hKm (fun b hlt _=>hbel.block b hlt) hbel.size (Kp.of hbel g.kb) (fun b hb=>?_) (fun yc hyw=>?_))
    · have hb:b∈(Value.slice (some ⟨w.heap.size,0,none⟩) (xs.length+ys.length) cap' :: (ua++ub)).flatMap zaE:=hb
      rw[fm] at hb
      rcases List.mem_append.1 hb with hb | hb
      · have:=hnewtop b hb; subst this; exact .inl ⟨Nat.le_refl _,by simp⟩
      · exact .inr (inAB b hb).2
    · have go:∀ {u c b},zcB (cx C s β w) u c b→(∀ k∈zaE b,k < w.heap.size)→zcB yc u c b:=fun h hk=>h.go fun k hkk=>by
        rw[hyw]; exact hbel.block k (hk k hkk)
      refine ⟨_,ua++ub,rfl,lenAB,?_,hcd,.inr ⟨w.heap.size,cap',_,E,by simp,by omega,by simpa using hcap,hcm' (by unfold maxLen; omega),by rw[hyw]; exact heap_alloc w.drew _,?_,?_⟩⟩
      · rw[fm]
        refine List.nodup_append.2 ⟨zeO (zdD ..),ndab,fun b h1 c h2 e=>?_⟩
        subst e
        have:=hnewtop b h1
        have:=(inAB b h2).1
        omega
      · simp only[Array.size_append,List.size_toArray,size_zeroCells,zh4 (_E:=E) q5,hn.1,hol,q2,← Nat.add_mul]; congr 1; omega
      · exact zsS (olds:=olds) (news:=news) (rest:=(Builtin.zeroCells ez.cells (cap' - (xs.length+ys.length))).toList) (by simp) hol (by rw[hn.1,q2]) hla
          (fun j c hj=>by obtain ⟨u,b,h1,h2,h3⟩:=hor j c hj; exact ⟨u,b,h1,h2,go h3 fun k hk=>(inAB k (List.mem_append_left _ (memu h2 k hk))).1⟩)
          (fun j c hj=>by obtain ⟨u,b,h1,h2,h3⟩:=hnr j c hj; exact ⟨u,b,h1,h2,go h3 fun k hk=>(inAB k (List.mem_append_right _ (memu h2 k hk))).1⟩)
  rcases hA with ⟨rfl,ad,rfl⟩ | ⟨gb,cap,cur,T,rfl,hc0,hlc,hcm,hg,hcs,hold⟩
  · have hua:ua=[]:=List.eq_nil_of_length_eq_zero (by simpa using hla)
    by_cases h0:ys.length=0
    · have hys:ys=[]:=List.eq_nil_of_length_eq_zero h0
      subst hys
      have hub:ub=[]:=List.eq_nil_of_length_eq_zero (by simpa using hlb)
      have hr:(Builtin.append_ #[t,t] o.type #[.slice ad 0 0,vb]).run P w = .ok (.slice ad 0 0) w:=by
        obtain ⟨hf,hl⟩:=hn.first (P:=P) (w':=w) fun _ _=>rfl
        have hnn:news=[]:=List.eq_nil_of_length_eq_zero (by simpa using hn.1)
        subst hnn
        simp only[List.length_nil] at hf hl
        cases ad<;>simp[Builtin.append_,run_underlying hu,sizeOf,typeInfo,q1,hl,hf,storeCells]
      refine fin _ _ hr rfl (g.zhl (zfd d) hKm (fun _ _ _=>rfl) (Nat.le_refl _) (Kp.refl _ _) (fun b hb=>?_) (fun yc hyw=>?_))
      · subst hua; subst hub
        cases ad<;>simp[zaq,zaE] at hb
      · refine ⟨_,_,rfl,lenAB,?_,hcd,.inl ⟨rfl,ad,rfl⟩⟩
        rw[fm]
        cases ad<;>simpa [zaE] using ndab
    · refine grow [] ad 0 rfl ?_ (by simp; omega) (by simp) fun j c hc=>by simp[flat] at hc
      cases ad<;>simp[Builtin.firstCells,loadCells,loadCellsFrom]
  · have hgA : gb∈zaE (.slice (some ⟨gb,0,none⟩) xs.length cap):=by cases cap with | zero=>omega | succ k=>simp[zaE]
    have hgb0:gb∈(Value.slice (some ⟨gb,0,none⟩) xs.length cap :: ua).flatMap zaE:=by rw[List.flatMap_cons]; exact List.mem_append_left _ hgA
    obtain ⟨kg,hkg,zg,hzg,hbzg⟩:=hTa gb hgb0
    have hb0:¬ C.keep gb:=by
      obtain ⟨e0,e1,e2⟩:=hKm kg hkg
      exact (g.fresh gb ⟨kg,e0,zg,e1,e2,hzg,hbzg⟩).1
    have hcl:cur.toList.length=cap * e.size:=by simpa using hcs
    have hcl2:(cur.toList.take (xs.length * einf.size)).length=xs.length * e.size:=by
      have:=Nat.mul_le_mul_right e.size hlc
      rw[List.length_take,hcl,q2]; omega
    have htopv:∀ k c,0 < c→zaE (.slice (some ⟨gb,0,none⟩) k c)=[gb]:=fun k c hc=>by cases c with | zero=>omega | succ k=>rfl
    have hor:∀ (j:Nat) (c:Cell),(flat e xs)[j]? = some c→∃ u b,(cur.toList.take (xs.length * einf.size))[j]? = some u∧ua[j]? = some b∧zcB (cx C s β w) u c b:=fun j c hj=>by
      obtain ⟨u,b,h1,h2,h3⟩:=hold j c hj
      have hjl:=(List.getElem?_eq_some_iff.1 hj).1
      rw[zaD] at hjl
      exact ⟨u,b,by rw[List.getElem?_take_of_lt (by rw[q2]; exact hjl)]; simpa using h1,h2,h3⟩
    have gnot:gb ∉ ua.flatMap zaE++ub.flatMap zaE:=fun h=>by
      rcases List.mem_append.1 h with h | h
      · exact na.2.2 gb hgA gb h rfl
      · exact hdis gb hgb0 (inB gb h)
    by_cases hroom:xs.length+ys.length≤cap
    · have hfit:xs.length * einf.size+news.length≤cur.size:=by rw[hn.1,hcs,q2,← Nat.add_mul]; exact Nat.mul_le_mul_right _ hroom
      have hr:=run_append_fits (P:=P) (_z:=ez) (ty:=o.type) hu q1 hg hn hroom hfit
      refine fin _ _ hr rfl (g.zhl (zfd d) hKm (fun k _ hnk=>setRow_other w gb k _ fun e'=>hnk kg hkg zg hzg (by rw[e']; exact hbzg)) (by simp[World.setRow]; exact Nat.le_refl _) (below_setRow hb0 _) (fun b hb=>?_) (fun yc hyw=>?_))
      · have hb:b∈(Value.slice (some ⟨gb,0,none⟩) (xs.length+ys.length) cap :: (ua++ub)).flatMap zaE:=hb
        rw[fm,htopv _ cap hc0] at hb
        rcases List.mem_append.1 hb with hb | hb
        · have:=List.mem_singleton.1 hb; subst this; exact .inr ⟨kg,hkg,zg,hzg,hbzg⟩
        · exact .inr (inAB b hb).2
      · have go:∀ {u c b},zcB (cx C s β w) u c b→(∀ k∈zaE b,k≠gb)→zcB yc u c b:=fun h hk=>h.go fun k hkk=>by
          rw[hyw]; exact setRow_other w gb k _ fun e'=>hk k hkk e'
        refine ⟨_,ua++ub,rfl,lenAB,?_,hcd,.inr ⟨gb,cap,_,T,by simp,hc0,by simpa using hroom,hcm,by rw[hyw]; exact setRow_heap w gb cur _ T (0,0) hg,?_,?_⟩⟩
        · rw[fm,htopv _ cap hc0]
          refine List.nodup_append.2 ⟨by simp,ndab,fun b h1 c h2 e=>?_⟩
          subst e
          have:=List.mem_singleton.1 h1
          subst this; exact gnot h2
        · simp only[List.size_toArray,List.length_append,List.length_take,List.length_drop,Array.length_toList]; omega
        · exact zsS (olds:=cur.toList.take (xs.length * einf.size)) (news:=news) (rest:=cur.toList.drop (xs.length * einf.size+news.length)) rfl hcl2 (by rw[hn.1,q2]) hla
            (fun j c hj=>by obtain ⟨u,b,h1,h2,h3⟩:=hor j c hj; exact ⟨u,b,h1,h2,go h3 fun k hk e'=>gnot (by rw[← e']; exact List.mem_append_left _ (memu h2 k hk))⟩)
            (fun j c hj=>by obtain ⟨u,b,h1,h2,h3⟩:=hnr j c hj; exact ⟨u,b,h1,h2,go h3 fun k hk e'=>gnot (by rw[← e']; exact List.mem_append_right _ (memu h2 k hk))⟩)
    · obtain ⟨newo,hno,hnor⟩:=zsj (x:=cx C s β w) (t:=e) (xs:=xs) (us:=ua) (sv := .slice (some ⟨gb,0,none⟩) xs.length cap) (.inr ⟨gb,cap,cur,T,rfl,hc0,hlc,hcm,hg,hcs,hold⟩)
      rw[← q2] at hno
      refine grow newo _ cap rfl (hno.first (P:=P) (w':=w.drew) fun _ _=>rfl).1 (by omega) (by rw[hno.1,q2]) hnor
end
end Go.Di
