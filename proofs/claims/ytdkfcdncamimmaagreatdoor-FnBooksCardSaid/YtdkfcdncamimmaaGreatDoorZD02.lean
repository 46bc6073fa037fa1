/-
  Own work: part 3 of the texts that the proof of the given statement leans on.
-/
import Derived.Tactics
import Derived.Deep.LoopGhost
import Derived.Test.YtdkfcdncamimmaaGreatDoorZD01
noncomputable section
open Go.RowKit (Below)
namespace Go.Di
theorem zyq (size:Nat) (place:Nat→Option (Nat × Nat)) (hp:∀ i,place i=some (i * size,size)):∀ (vs:List Value) (k:Nat) (cells:Array Value),(∀ v∈vs,v.cells.size=size)→(k+vs.length) * size≤cells.size →
    ∃ cells',Instr.fill place cells ((vs.zipIdx k).map fun p=>(p.2,p.1))=some cells'∧cells'.toList=cells.toList.take (k * size)++vs.flatMap (fun v=>v.cells.toList)++cells.toList.drop ((k+vs.length) * size)
  | [],k,cells,_,_=>⟨cells,rfl,by simp⟩
  | v :: vs,k,cells,h1,h2=>by
    simp only[List.length_cons] at h2
    have hv:=h1 v (List.mem_cons_self ..)
    have e0:(k+(vs.length+1)) * size=k * size+size+vs.length * size:=by rw[Nat.add_mul,Nat.add_mul]; omega
    have e1:(k+1+vs.length) * size=k * size+size+vs.length * size:=by rw[Nat.add_mul,Nat.add_mul]; omega
    obtain ⟨c1,q1,q2⟩:=zFW place cells k (k * size) size v ((vs.zipIdx (k+1)).map fun p=>(p.2,p.1)) (hp k) hv (by omega)
    have hl1:c1.size=cells.size:=by
      have:=congrArg List.length q2
      simp only[Array.length_toList,List.length_append,List.length_take,List.length_drop] at this
      omega
    obtain ⟨c2,q3,q4⟩:=zyq size place hp vs (k+1) c1 (fun u hu=>h1 u (List.mem_cons_of_mem _ hu)) (by omega)
    refine ⟨c2,by simp only[List.zipIdx_cons,List.map_cons]; rw[q1]; exact q3,?_⟩
    rw[q4,q2]
    have hlt:(cells.toList.take (k * size)).length=k * size:=by rw[List.length_take,Array.length_toList]; omega
    have a1:(cells.toList.take (k * size)++v.cells.toList++cells.toList.drop (k * size+size)).take ((k+1) * size)=cells.toList.take (k * size)++v.cells.toList:=by
      apply List.take_left'
      rw[List.length_append,hlt,Array.length_toList,hv,Nat.add_mul,Nat.one_mul]
    have a2:(cells.toList.take (k * size)++v.cells.toList++cells.toList.drop (k * size+size)).drop ((k+1+vs.length) * size)=cells.toList.drop ((k+(vs.length+1)) * size):=by
      have hl2:(cells.toList.take (k * size)++v.cells.toList).length=k * size+size:=by rw[List.length_append,hlt,Array.length_toList,hv]
      rw[e0,e1,← hl2,List.drop_length_add_append,List.drop_drop]
    rw[a1,a2]
    simp[List.append_assoc]
section
variable {P:Program} {C:Bs} {w w':World} {s s':St} {X:Nat→Prop} {β β':Nat→Option Value} {a:Act} {o:Oper} {tm:Array Value}
 {t:TypeId} {x y:Operand} {i:TI} {K:Act→World→Prop} {Q:Exit→Act→World→Prop} {lay:List (TypeId × TI)} {cons:List (FuncId × Con)} {av:AV}
theorem elemsOf_spec {ps:List (Nat × Operand)} (hop:∀ (j:Nat) (z:Operand),(j,z)∈ps→zbn (cx C s β w) (zbs s z) (a.eval z)) (g:Gam C s X β a.tmps w) {e:ST}:∀ (k:Nat) {es:List e.El} {cs:List A1},elemsOf s e k ps=some (es,cs) →
    ps.map (fun p=>(p.1,a.eval p.2))=((ps.map fun p=>a.eval p.2).zipIdx k).map (fun p=>(p.2,p.1))∧(∀ v∈ps.map (fun p=>a.eval p.2),v.cells.size=e.size∧∀ u∈v.cells.toList,u.oneCell'=true)∧es.length=ps.length ∧
      (∀ (l:List A1),(∀ b∈cs,b∈l)→∀ (j:Nat) (c:Cell),(flat e es)[j]? = some c→∃ u,((ps.map fun p=>a.eval p.2).flatMap fun v=>v.cells.toList)[j]? = some u∧(cx C ⟨s.env,zaB l s.ents⟩ β w).rd u c) ∧
      zdF (cx C s β w) cs ((ps.map fun p=>a.eval p.2).flatMap fun v=>v.cells.toList)∧∀ (j:Nat) (c:Cell),(flat e es)[j]? = some c→∃ b ck z,cs[j]? = some b∧b.as s.ents ck=some z∧c=ck.cell z:=by
  induction ps with
  | nil=>intro k es cs h; simp only[elemsOf] at h; cases h; exact ⟨rfl,(fun v hv=>by cases hv),rfl,(fun l _ j c hj=>by simp[flat] at hj),trivial,fun j c hj=>by simp[flat] at hj⟩
  | cons q ps ih =>
    intro k es cs h
    obtain ⟨j0,z⟩:=q
    simp only[elemsOf] at h
    split at h
    · rename_i hj0
      have hj0:k=j0:=by simpa using hj0
      subst hj0
      split at h
      · rename_i c hc
        split at h
        · rename_i el hel
          split at h
          · rename_i p hp
            cases h
            obtain ⟨h1,h2,h3,h4,h5,h6⟩:=ih (fun j z hm=>hop j z (List.mem_cons_of_mem _ hm)) (k+1) (es:=p.1) (cs:=p.2) hp
            obtain ⟨xt,q1,rfl⟩:=zjA hel
            obtain ⟨hcv,_⟩:=zjD (hop k z (List.mem_cons_self ..)) hc
            have hl:=znC q1
            rw[ztm] at hl
            have hcl:=hcv.length
            simp only[Array.length_toList] at hcl
            refine ⟨by simp only[List.map_cons,List.zipIdx_cons,h1],fun v hv=>?_,by simp[h3],fun l hcs j cc hj=>?_,?_,fun j cc hj=>?_⟩
            · simp only[List.map_cons,List.mem_cons] at hv
              rcases hv with rfl | hv
              · exact ⟨by omega,hcv.one⟩
              · exact h2 v hv
            · have hfl:flat e (e.mk xt :: p.1)=e.cells (e.mk xt)++flat e p.1:=by simp[flat]
              rw[hfl] at hj
              simp only[List.map_cons,List.flatMap_cons]
              by_cases hlt:j < e.size
              · rw[List.getElem?_append_left (by rw[zas]; exact hlt),zgc] at hj
                obtain ⟨u,hu,hr⟩:=as_stored g (l:=l) (fun b hb=>hcs b (List.mem_append_left _ hb)) hcv q1 j cc hj
                exact ⟨u,by rw[List.getElem?_append_left (by simp; omega)]; exact hu,hr⟩
              · rw[List.getElem?_append_right (by rw[zas]; omega),zas] at hj
                obtain ⟨u,hu,hr⟩:=h4 l (fun b hb=>hcs b (List.mem_append_right _ hb)) _ cc hj
                exact ⟨u,by rw[List.getElem?_append_right (by simp; omega)]; simpa [← hcl,hl] using hu,hr⟩
            · simp only[List.map_cons,List.flatMap_cons]
              exact hcv.append h5
            · have hfl:flat e (e.mk xt :: p.1)=e.cells (e.mk xt)++flat e p.1:=by simp[flat]
              rw[hfl] at hj
              by_cases hlt:j < e.size
              · rw[List.getElem?_append_left (by rw[zas]; exact hlt),zgc] at hj
                obtain ⟨b,ck,z,g1,g2,g3⟩:=zhh q1 j cc hj
                exact ⟨b,ck,z,by rw[List.getElem?_append_left (by omega)]; exact g1,g2,g3⟩
              · rw[List.getElem?_append_right (by rw[zas]; omega),zas] at hj
                obtain ⟨b,ck,z,g1,g2,g3⟩:=h6 _ cc hj
                exact ⟨b,ck,z,by rw[List.getElem?_append_right (by omega),hl]; exact g1,g2,g3⟩
          · cases h
        · cases h
      · cases h
    · cases h
theorem sound_buildSlice (hL:zdE P lay) {len:Nat} {ps:Array (Nat × Operand)} (hlen24:len≤1000) (ho:o.op = .buildSlice t len ps) (g:Gam C s X β a.tmps w) (hx:∀ (j:Nat) (z:Operand),(j,z)∈ps.toList→zbn (cx C s β w) (zbs s z) (a.eval z))
    (hps:len=0→ps.toList=[]) (hy:(evalOp lay cons o s).Yields (av,s')) (hK:Goes C X o a av s' K):o.wp P a w K Q:=by
  simp only[evalOp,ho] at hy
  split at hy
  · rename_i _ _ _ e _ _ _ hi
    obtain ⟨inf,d,z,_,hu,_,_,_,_,_,hel,_⟩:=hL t _ hi
    obtain ⟨E,rfl,einf,ez,q1,q2,q3,q4,q5⟩:=hel e rfl
    split at hy
    · cases hy
      have hpe:=hps rfl
      have hpe':ps=#[]:=by simpa using hpe
      refine zfc (v := .slice (some ⟨w.heap.size,0,none⟩) 0 0) (w':=w.alloc (.cells #[] E)) ?_ (hK _ _ β (g.grown (zb3 w _)) (zcx (a := .mt) ⟨_,rfl⟩ rfl))
      simp[execOp,ho,Instr.buildSlice,run_underlying hu,sizeOf,typeInfo,q1,hpe',Instr.fill,newRow]
      exact congrArg (fun c=>w.alloc (.cells c E)) (Array.eq_empty_of_size_eq_zero (by simp))
    · rename_i hlen0
      split at hy
      · rename_i es cs hes
        split at hy
        · rename_i hlb
          have hlb:es.length=len:=by simpa using hlb
          obtain ⟨h1,h2,h3,h4,h5',h6'⟩:=elemsOf_spec hx g 0 hes
          have h4:=h4 cs (fun b hb=>hb)
          have hsz:=size_pos e
          have hlp:0 < len:=by
            rcases Nat.eq_zero_or_pos len with h | h
            · exact (hlen0 h).elim
            · exact h
          have hpl:ps.size=len:=by rw[← hlb,h3]; simp
          have hm:len * e.size≤1000 * 9:=Nat.mul_le_mul hlen24 (by cases e<;>decide)
          have hmne:¬ len * e.size=0:=by
            have:=Nat.mul_pos hlp hsz; omega
          have hz0:((Array.range (len * e.size)).map (ez.cells[· % ez.cells.size]!)).size=len * e.size:=by simp
          obtain ⟨cells,e1,e2⟩:=zyq e.size (fun i=>some (i * e.size,e.size)) (fun _=>rfl) (ps.toList.map fun p=>a.eval p.2) 0 ((Array.range (len * e.size)).map (ez.cells[· % ez.cells.size]!))
            (fun v hv=>(h2 v hv).1) (by simp[hpl])
          rw[← h1] at e1
          have hcl:cells.toList=(ps.toList.map fun p=>a.eval p.2).flatMap fun v=>v.cells.toList:=by
            rw[e2]
            simp only[Nat.zero_mul,List.take_zero,List.nil_append,Nat.zero_add]
            rw[List.drop_of_length_le (by simp[hpl]),List.append_nil]
          have hcs:cells.size=len * e.size:=by
            have h5:∀ vs:List Value,(∀ v∈vs,v.cells.size=e.size)→(vs.flatMap fun v=>v.cells.toList).length=vs.length * e.size:=by
              intro vs
              induction vs with
              | nil=>intro _; simp
              | cons v vs ih=>intro h; simp only[List.flatMap_cons,List.length_append,Array.length_toList,h v (List.mem_cons_self ..),ih fun u hu=>h u (List.mem_cons_of_mem _ hu),List.length_cons,Nat.add_mul]; omega
            have:=congrArg List.length hcl
            rw[Array.length_toList,h5 _ fun v hv=>(h2 v hv).1,List.length_map,← h3,hlb] at this
            exact this
          have mach:(execOp a.eval o).run P w = .ok (.value (.slice (some ⟨w.heap.size,0,none⟩) len len)) (w.alloc (.cells cells E)):=by
            have hnot:¬ (16777216 < len * e.size):=by omega
            have e1':Instr.fill (fun i=>some (i * e.size,e.size)) ((Array.range (len * e.size)).map fun x=>ez.cells[x % ez.cells.size]!) (List.map (fun p=>(p.1,a.eval p.2)) ps.toList)=some cells:=e1
            simp[execOp,ho,Instr.buildSlice,run_underlying hu,sizeOf,typeInfo,zeroValue,q1,q2,q4,hnot,hmne,newRow]
            simp[e1']
          have tops:∀ b∈zby (.slice (some ⟨w.heap.size,0,none⟩) len len),b=w.heap.size:=fun b hb=>by
            cases len with
            | zero=>omega
            | succ k=>simpa [zby] using hb
          split at hy
          · rename_i hdt
            have hcd:=zqy hdt hi rfl
            split at hy
            · rename_i Kn habs
              split at hy
              · rename_i hnd
                cases hy
                obtain ⟨r1,r2⟩:=zjG g h5' habs (zg6 hnd)
                have hcl5:=h5'.length
                have hcsl:cs.length=len * e.size:=by rw[hcl5,← hcl,Array.length_toList,hcs]
                have hKm:∀ k∈Kn,∃ e,look k s.ents=some e∧e.mut=true:=fun k hk=>by
                  obtain ⟨ys,h⟩:=ziX habs k hk; exact ⟨_,h,rfl⟩
                have gp:=g.zj6 (w':=w.alloc (.cells cells E)) (n:=nm (o.dst.getD 0)) (u:=e) (xs:=es) (vs:=(Value.slice (some ⟨w.heap.size,0,none⟩) len len :: zpL cs ((ps.toList.map fun p=>a.eval p.2).flatMap fun v=>v.cells.toList)).toArray) (zgE _) hKm
                  (fun b hlt _=>(zb3 w _).block b hlt) (zb3 w _).size (Kp.of (zb3 w _) g.kb) (fun b hb=>by
                    have hb:b∈(Value.slice (some ⟨w.heap.size,0,none⟩) len len :: zpL cs ((ps.toList.map fun p=>a.eval p.2).flatMap fun v=>v.cells.toList)).flatMap zby:=hb
                    rw[List.flatMap_cons] at hb
                    rcases List.mem_append.1 hb with hb | hb
                    · have:=tops b hb; subst this; exact .inl ⟨Nat.le_refl _,by simp⟩
                    · obtain ⟨m,hm,v,h1,h2⟩:=r2 b hb; exact .inr ⟨m,hm,v,h1,h2⟩) (fun yc hyw=>by
                    refine ⟨_,_,rfl,?_,?_,hcd,.inr ⟨w.heap.size,len,cells,E,by rw[hlb],hlp,by omega,by unfold maxLen; omega,by rw[hyw]; exact heap_alloc w _,hcs,fun j c hj=>?_⟩⟩
                    · rw[zg9 hcl5,hcsl,hlb]
                    · rw[List.flatMap_cons]
                      refine List.nodup_append.2 ⟨zj0 _,r1,fun b h1 b' h2 he=>?_⟩
                      subst he
                      have:=tops b h1
                      obtain ⟨m,hm,v,k1,k2⟩:=r2 b h2
                      obtain ⟨e0,g1,g2⟩:=hKm m hm
                      have:=(g.fresh b ⟨m,e0,v,g1,g2,k1,k2⟩).2
                      omega
                    · obtain ⟨b,ck,z,g1,g2,g3⟩:=h6' j c hj
                      obtain ⟨v,hv,hok,_⟩:=h5'.get g1
                      obtain ⟨k1,ha1,ha2⟩:=zlE habs g1
                      refine ⟨v,zLR b v,by rw[← Array.getElem?_toList,hcl]; exact hv,zj4 g1 hv,?_⟩
                      subst g3
                      refine zuJ g hok ha1 g2 (fun t2 xs2 hh=>znG hcd (by rw[← hh]; exact hj)) fun k hk=>?_
                      rw[hyw]
                      refine (zb3 w _).block k ?_
                      obtain ⟨m,hm,v2,h3,h4⟩:=zpz hok ha1 k hk
                      obtain ⟨e0,g1,g2⟩:=hKm m (ha2 m hm)
                      exact (g.fresh k ⟨m,e0,v2,g1,g2,h3,h4⟩).2)
                exact zfc mach (hK _ _ _ gp (zcx (a := .dp _) (fun _=>⟨_,upd_same ..,by simp⟩) rfl))
              · exact hy.elim
            · exact hy.elim
          · cases hy
            have gp:=(g.zaB cs).ziz (zb3 w (.cells cells E)) (hnm:=zgE _) (n:=nm (o.dst.getD 0)) (e := .arr false e es) (v := .slice (some ⟨w.heap.size,0,none⟩) len len) (fun b hb=>by
                cases len with
                | zero=>omega
                | succ k=>simp[zaJ] at hb; subst hb; simp) fun hle => .inr ⟨w.heap.size,len,cells,E,by rw[hlb],hlp,by omega,by unfold maxLen; omega,heap_alloc w _,hcs,fun j c hj=>by
                obtain ⟨u,hu,hr⟩:=h4 j c hj
                exact ⟨u,by rw[← Array.getElem?_toList,hcl]; exact hu,hle.rd ((zlA _).rd hr)⟩⟩
            exact zfc mach (hK _ _ _ gp (zcx (a := .own _) (fun _ _ _ _=>upd_same ..) rfl))
        · exact hy.elim
      · exact hy.elim
  · exact hy.elim
theorem zIw {x:Cx} {fr:Bool} {t:ST} {xs:List t.El} {vs:Array Value} {v:Value} (h:EntOk x (.deep fr t xs) (.tuple vs)) (h0:vs[0]? = some v):(znQ x.w fun _=>True).rd v (.sl t xs):=by
 cases fr with
 | false=>exact zF1 h h0 fun _ _=>trivial
 | true=>exact zoD (zrT h h0) fun _ _ _ _=>trivial
theorem zF3 {x:Cx} {fr:Bool} {t:ST} {xs:List t.El} {vs:Array Value} {v:Value} (h:EntOk x (.deep fr t xs) (.tuple vs)) {i off:Nat} {e:t.El} {ys:List Int} (he:xs[i]? = some e) (hoff:off < t.size) (hc:(t.cells e)[off]? = some (.sl .int ys))
  (hv:vs[1+i * t.size+off]? = some v):(znQ x.w fun _=>True).rd v (.sl .int ys):=by
 cases fr with
 | false=>exact zDM (zpc h he hoff hc hv) fun _ _=>trivial
 | true=>exact zoD (zqM h he hoff hc hv) fun _ _ _ _=>trivial
theorem zCX {ts:Array TypeId} (ho:o.op = .call { callee := .builtin .max,args:=#[x,y],argTypes:=ts }) (g:Gam C s X β a.tmps w) (hx:zbn (cx C s β w) (zbs s x) (a.eval x)) (hx2:zbn (cx C s β w) (zbs s y) (a.eval y))
  (hy:(evalOp lay cons o s).Yields (av,s')) (hK:Goes C X o a av s' K):o.wp P a w K Q:=by
 simp only[evalOp,ho] at hy
 split at hy
 ·rename_i k m k' n h1 h2
  cases hy
  rw[h1] at hx; rw[h2] at hx2
  have v1:=zfu hx
  have v2:=zfu hx2
  have hr:(execOp a.eval o).run P w = .ok (.value (.int k (cond (decide (n > m)) n m))) w:=by
   by_cases h:n > m
   ·simp[execOp,ho,resolve,invoke,builtin,Builtin.max_,Builtin.max2,v1,v2,h]
   ·simp[execOp,ho,resolve,invoke,builtin,Builtin.max_,Builtin.max2,v1,v2,h]
  exact zal hr g zbi hK
 ·exact hy.elim
theorem sound_len (hL:zdE P lay) (ho:o.op = .call { callee := .builtin .len,args:=#[x],argTypes:=#[t] }) (g:Gam C s X β a.tmps w) (hx:zbn (cx C s β w) (zbs s x) (a.eval x))
    (hy:(evalOp lay cons o s).Yields (av,s')) (hK:Goes C X o a av s' K):o.wp P a w K Q:=by
  simp only[evalOp,ho] at hy
  split at hy
  · rename_i i b hi hb
    have hT:=hL t i hi
    rw[zc3 hb] at hx
    have hT':=hT
    unfold lenOp at hy
    split at hy
    · split at hy
      · rename_i hs
        cases hy
        exact zal (zvL hT (zyd hs) ho (zmg hx)) g zbi hK
      · exact hy.elim
    · split at hy
      · exact hy.elim
      · rename_i e he
        obtain ⟨a1,h1,h2,hx3⟩:=hx; cases h1
        split at hy
        · cases hy
          obtain ⟨ad,cap,hv,_⟩:=zqf h2
          exact zal (zmu hT he ho hv) g zbi hK
        · cases hy
          obtain ⟨ad,hv⟩:=h2
          exact zal (zmu hT he ho hv) g zbi hK
        · split at hy
          · rename_i fr u xs hl
            cases hy
            obtain ⟨ad,cap,hv,_⟩:=zpx (g.ents _ _ _ hl (h2 _ _ _ hl))
            exact zal (zmu hT he ho hv) g zbi hK
          · exact hy.elim
        · split at hy
          · rename_i u xs hl
            cases hy
            obtain ⟨vs,k1,k2⟩:=h2 (by simp[cx,hl])
            obtain ⟨ad,cap,hv,_⟩:=zqf (zIw (g.ents _ _ _ hl k1) k2)
            exact zal (zmu hT' he ho hv) g zbi hK
          · exact hy.elim
        · split at hy
          · rename_i n i2 off ys _ _ u xs hl
            cases hy
            obtain ⟨hoff,el,k1,k2,vs,k3,k4⟩:=h2 _ u xs hl
            obtain ⟨ad,cap,hv,_⟩:=zqf (zF3 (g.ents _ _ _ hl k3) k1 hoff k2 k4)
            exact zal (zmu hT' he ho hv) g zbi hK
          · exact hy.elim
        · split at hy
          · rename_i fr u xs hl
            cases hy
            obtain ⟨_,ad,m,cap,_,_,hv⟩:=h2 fr u xs hl
            exact zal (zmu hT he ho hv) g zbi hK
          · exact hy.elim
        · exact hy.elim
  · exact hy.elim
theorem sound_appendD (hT:zie P t i) {e:ST} (he:i.elem=some e) (ho:o.op = .call { callee := .builtin .append,args:=#[x,y],argTypes:=#[t,t] }) (g:Gam C s X β a.tmps w) {b:A1} {m:Nat}
    (hx:zbn (cx C s β w) (.v false [b]) (a.eval x)) (hz:zbn (cx C s β w) (.v false [.dp m]) (a.eval y)) {d:Nat}
    (hy:(appendD s d e b m).Yields (av,s')) (hK:Goes C X o a av s' K):o.wp P a w K Q:=by
  obtain ⟨a1,h1,h2,hx3⟩:=hx; cases h1
  obtain ⟨a2,h3,h4,hz3⟩:=hz; cases h3
  unfold appendD at hy
  split at hy
  · rename_i u ys0 hlm
    split at hy
    · rename_i ys hys
      obtain ⟨rfl,rfl⟩:=cast_eq hys
      obtain ⟨vsB,k1,k2⟩:=h4 (by simp[cx,hlm])
      obtain ⟨vb,ub,e1,hub,hnb,hcd,hB⟩:=g.ents m _ _ hlm k1
      cases e1
      have hvb:vb=a.eval y:=by simpa using k2
      have tB:∀ b∈(vb :: ub).flatMap zby,∃ z,β m=some z∧b∈zaJ z:=fun b hb=>⟨_,k1,by simpa [zaJ] using hb⟩
      split at hy
      · obtain ⟨q,hq,hf⟩:=hy
        cases hf
        obtain ⟨ad,hva⟩:=h2
        exact append_deep hT he hcd ho g d (Kn:=[m]) (xs:=[]) (va := .slice ad 0 0) (ua:=[]) hva hvb.symm (.inl ⟨rfl,ad,rfl⟩) hB (by simp) hub (by cases ad<;>simp[zby]) hnb (fun b hb=>by cases ad<;>simp[zby] at hb)
          (fun b hb=>by cases ad<;>simp[zby] at hb) (fun b hb=>⟨m,by simp,tB b hb⟩) (fun k hk=>by have:=List.mem_singleton.1 hk; subst this; exact ⟨_,hlm,rfl⟩) (by simpa using Nat.le_of_ble_eq_true (zd8 hq)) hK
      · rename_i n
        split at hy
        · rename_i v xs0 hbeq hl
          split at hy
          · rename_i xs hxs
            obtain ⟨rfl,rfl⟩:=cast_eq hxs
            obtain ⟨q,hq,hf⟩:=hy
            cases hf
            have hne:n≠m:=Nat.ne_of_beq_eq_false hbeq
            obtain ⟨vsA,p1,p2⟩:=h2 (by simp[cx,hl])
            obtain ⟨va,ua,e2,hua,hna,_,hA⟩:=g.ents n _ _ hl p1
            cases e2
            have hva:va=a.eval x:=by simpa using p2
            have tA:∀ b∈(va :: ua).flatMap zby,∃ z,β n=some z∧b∈zaJ z:=fun b hb=>⟨_,p1,by simpa [zaJ] using hb⟩
            exact append_deep hT he hcd ho g d (Kn:=[n,m]) hva.symm hvb.symm hA hB hua hub hna hnb (fun b hb hb'=>by
                obtain ⟨z,z1,z2⟩:=tA b hb
                obtain ⟨z',z3,z4⟩:=tB b hb'
                exact hne (g.uniq n m _ _ z z' b hl hlm rfl rfl z1 z3 z2 z4))
              (fun b hb=>⟨n,by simp,tA b hb⟩) (fun b hb=>⟨m,by simp,tB b hb⟩) (fun k hk=>by
                rcases List.mem_cons.1 hk with rfl | hk
                · exact ⟨_,hl,rfl⟩
                · have:=List.mem_singleton.1 hk; subst this; exact ⟨_,hlm,rfl⟩) (Nat.le_of_ble_eq_true (zd8 hq)) hK
          · exact hy.elim
        · exact hy.elim
      · exact hy.elim
    · exact hy.elim
  · exact hy.elim
theorem sound_append (hL:zdE P lay) {u:TypeId} (ho:o.op = .call { callee := .builtin .append,args:=#[x,y],argTypes:=#[t,u] }) (g:Gam C s X β a.tmps w) (hx:zbn (cx C s β w) (zbs s x) (a.eval x)) (hz:zbn (cx C s β w) (zbs s y) (a.eval y))
    (hy:(evalOp lay cons o s).Yields (av,s')) (hK:Goes C X o a av s' K):o.wp P a w K Q:=by
  simp only[evalOp,ho] at hy
  split at hy
  · rename_i hbeq hi hb1 hb2
    have htu:t=u:=by simpa using hbeq
    subst htu
    have hT:=hL t _ hi
    rw[zc3 hb1] at hx
    rw[zc3 hb2] at hz
    split at hy
    · exact sound_appendD hT rfl ho g hx hz hy hK
    unfold appendOp at hy
    split at hy
    · rename_i ys hys
      split at hy
      · obtain ⟨q,hq,hf⟩:=hy
        cases hf
        obtain ⟨a1,h1,h2,_⟩:=hx; cases h1; obtain ⟨ad,h2⟩:=h2
        exact append_mt hT rfl ho g _ h2 hz hys (Nat.le_of_ble_eq_true (zd8 hq)) hK
      · split at hy
        · rename_i v xs0 hl
          split at hy
          · rename_i xs hxs
            obtain ⟨rfl,rfl⟩:=cast_eq hxs
            obtain ⟨q,hq,hf⟩:=hy
            cases hf
            exact append_own hT rfl ho g _ hl hx hz hys (Nat.le_of_ble_eq_true (zd8 hq)) hK
          · exact hy.elim
        · exact hy.elim
      · exact hy.elim
    · exact hy.elim
  · exact hy.elim
theorem zrq {l:List Operand} (hx:∀ z∈l,zbn (cx C s β w) (zbs s z) (a.eval z)):∀ (j:Nat) av v,(opsL s l)[j]? = some av→(l.map a.eval)[j]? = some v→zbn (cx C s β w) av v:=by
  induction l with
  | nil=>intro j av v h; simp[opsL] at h
  | cons z r ih =>
    intro j av v h1 h2
    cases j with
    | zero=>simp[opsL] at h1 h2; subst h1; subst h2; exact hx z (List.mem_cons_self ..)
    | succ j=>simp[opsL] at h1 h2; exact ih (fun z hz=>hx z (List.mem_cons_of_mem _ hz)) j av v h1 (by simpa using h2)
theorem ze6:∀ l,(opsL s l).length=l.length
 | []=>rfl
 | _ :: r=>by simp[opsL,ze6 r]
theorem zmE:∀ (l:List (Bool × List C1T)) (e:List AV),zpS (l.map some) e=zwY l e
  | [],[]=>rfl
  | [],_ :: _=>rfl
  | _ :: _,[]=>rfl
  | (b,l) :: r,.v _ m :: e=>by
    show znO l m++zpS (r.map some) e=znO l m++zwY r e
    rw[zmE r e]
  | (b,l) :: r,.tup _ :: e=>by
    show zpS (r.map some) e=zwY r e
    exact zmE r e
theorem box_frz {n:Nat} {m:List A1} (l:List A1) (es:List (Nat × Ent)):look n (zaB l es)=some (.box m)↔look n es=some (.box m):=by
  induction l generalizing es with
  | nil=>exact Iff.rfl
  | cons a r ih =>
    have one:look n (a.freeze es)=some (.box m)↔look n es=some (.box m):=by
      have f1:∀ k,look n (freeze1 k es)=some (.box m)↔look n es=some (.box m):=fun k=>by
        rw[look_freeze1]
        split
        · cases hl:look n es with
          | none=>simp
          | some f=>cases f<;>simp[frz]
        · exact Iff.rfl
      cases a<;>simp only[A1.freeze]<;>first | exact Iff.rfl | exact f1 _
    exact (ih _).trans one
theorem pairsE_frz (c:List A1) (es:List (Nat × Ent)) (p:List (Nat × Nat)):∀ l:List (Nat × ET),zoH (zaB c es) p l=zoH es p l
  | []=>rfl
  | (n,.arr _ _) :: r=>pairsE_frz c es p r
  | (n,.deep _) :: r=>pairsE_frz c es p r
  | (n, .box l) :: r=>by
    have ih:=pairsE_frz c es p r
    have hb:=@box_frz (zaU p n)
    simp only[zoH]
    cases h:look (zaU p n) es with
    | none =>
      cases h':look (zaU p n) (zaB c es) with
      | none=>exact ih
      | some f=>cases f with
        | box m=>rw[(hb c es).1 h'] at h; cases h
        | arr _ _ _=>exact ih
        | deep _ _ _=>exact ih
    | some f =>
      cases f with
      | box m=>rw[(hb c es).2 h]; simp only[]; rw[ih]
      | arr _ _ _ =>
        cases h':look (zaU p n) (zaB c es) with
        | none=>exact ih
        | some f=>cases f with
          | box m=>rw[(hb c es).1 h'] at h; cases h
          | arr _ _ _=>exact ih
          | deep _ _ _=>exact ih
      | deep _ _ _ =>
        cases h':look (zaU p n) (zaB c es) with
        | none=>exact ih
        | some f=>cases f with
          | box m=>rw[(hb c es).1 h'] at h; cases h
          | arr _ _ _=>exact ih
          | deep _ _ _=>exact ih
theorem dataE_frz (c:List A1) (es:List (Nat × Ent)) (p:List (Nat × Nat)):∀ l:List (Nat × ET),zlC (zaB c es) p l=zlC es p l
  | []=>rfl
  | (n,.arr _ _) :: r=>dataE_frz c es p r
  | (n,.deep _) :: r=>dataE_frz c es p r
  | (n, .box l) :: r=>by
    have ih:=dataE_frz c es p r
    have hb:=@box_frz (zaU p n)
    simp only[zlC]
    cases h:look (zaU p n) es with
    | none =>
      cases h':look (zaU p n) (zaB c es) with
      | none=>exact ih
      | some f=>cases f with
        | box m=>rw[(hb c es).1 h'] at h; cases h
        | arr _ _ _=>exact ih
        | deep _ _ _=>exact ih
    | some f =>
      cases f with
      | box m=>rw[(hb c es).2 h]; simp only[]; rw[ih]
      | arr _ _ _ =>
        cases h':look (zaU p n) (zaB c es) with
        | none=>exact ih
        | some f=>cases f with
          | box m=>rw[(hb c es).1 h'] at h; cases h
          | arr _ _ _=>exact ih
          | deep _ _ _=>exact ih
      | deep _ _ _ =>
        cases h':look (zaU p n) (zaB c es) with
        | none=>exact ih
        | some f=>cases f with
          | box m=>rw[(hb c es).1 h'] at h; cases h
          | arr _ _ _=>exact ih
          | deep _ _ _=>exact ih
theorem Gam.zLU (g:Gam C s X β tm w) {avs:List AV} {args:List Value} (hlen:avs.length=args.length) (h:∀ (j:Nat) av v,avs[j]? = some av→args[j]? = some v→zbn (cx C s β w) av v) :
  Gam C ⟨avs,s.ents⟩ NoX β args.toArray w:=by
 refine ⟨by simpa using hlen,fun t av _ hb=>?_,g.ents,g.uniq,g.fresh,g.kb,g.below,g.pin,g.np,g.bs,g.fx⟩
 have hlt:t < args.length:=by rw[← hlen]; exact (List.getElem?_eq_some_iff.1 hb).1
 have:=h t av args[t] hb (List.getElem?_eq_getElem hlt)
 have he:args.toArray.getD t undef=args[t]:=by simp[Array.getD,hlt]
 rw[he]; exact this
theorem zyl:∀ {us:List Value},(us.flatMap zby).Nodup→∀ {i j:Nat} {a b:Value} {k:Nat},us[i]? = some a→us[j]? = some b→k∈zby a→k∈zby b→i=j
  | [],_,i,j,a,b,k,h,_,_,_=>by simp at h
  | u :: us,hn,i,j,a,b,k,h1,h2,h3,h4=>by
    rw[List.flatMap_cons] at hn
    have hn':=List.nodup_append.1 hn
    cases i with
    | zero =>
      cases j with
      | zero=>rfl
      | succ j =>
        simp at h1 h2; subst h1
        exact absurd rfl (hn'.2.2 k h3 k (List.mem_flatMap.2 ⟨b,List.mem_of_getElem? h2,h4⟩))
    | succ i =>
      cases j with
      | zero =>
        simp at h1 h2; subst h2
        exact absurd rfl (hn'.2.2 k h4 k (List.mem_flatMap.2 ⟨a,List.mem_of_getElem? h1,h3⟩))
      | succ j=>exact congrArg (·+1) (zyl hn'.2.1 (i:=i) (j:=j) (by simpa using h1) (by simpa using h2) h3 h4)
theorem zFG {g:Sig} (h:g.inner=true) (f:Nat→Nat) (y:Tys g.zmq.ks):∃ k z,zvU g.tup (zHr f (g.zmq.enc y).env) = .v false [.d (.int k z)]:=by
 obtain ⟨args,ins,tup,res,outs⟩:=g
 unfold Sig.inner at h
 split at h
 ·rename_i k h1 h2 h3 h4
  simp only at h3
  subst h3
  cases tup with
  | true=>cases h
  | false=>exact ⟨k,_,rfl⟩
 ·cases h
theorem ztt {g:Sig} (h:g.inner=true):g.shares=false∧g.tup=false∧g.res.length=1:=by
 obtain ⟨args,ins,tup,res,outs⟩:=g
 unfold Sig.inner at h
 split at h
 ·rename_i k h1 h2 h3 h4
  simp only at h1 h2 h3 h4 h
  subst h3; subst h4
  refine ⟨rfl,?_,rfl⟩
  cases tup with
  | true=>cases h
  | false=>rfl
 ·cases h
theorem bare_go {x y:Cx}:∀ {r:List AV},zG5 r=true→∀ (j:Nat) av v,r[j]? = some av→zbn x av v→zbn y av v
  | [],_,j,av,v,h,_=>by simp at h
  | a :: r,hb,j,av,v,h,hv=>by
    have key:(∃ c,a = .v false [.d c]∧∀ t xs,c ≠ .sl t xs)∧zG5 r=true:=by
      unfold zG5 at hb
      split at hb
      · rename_i h; cases h
      · rename_i h; cases h; exact ⟨⟨_,rfl,fun t xs e=>by cases e⟩,hb⟩
      · rename_i h; cases h; exact ⟨⟨_,rfl,fun t xs e=>by cases e⟩,hb⟩
      · rename_i h; cases h; exact ⟨⟨_,rfl,fun t xs e=>by cases e⟩,hb⟩
      · cases hb
    cases j with
    | zero =>
      simp at h; subst h
      obtain ⟨c,rfl,hc⟩:=key.1
      obtain ⟨a1,e1,e2,e3⟩:=hv
      cases e1
      exact ⟨_,rfl,zlv e2 hc,e3⟩
    | succ j=>exact bare_go key.2 j av v (by simpa using h) hv
theorem sound_inner {c : Con} {f:FuncId} (hM:zax P C.fix f c) (hcall:Callable P f) {args:Array Operand} {ts:Array TypeId} (ho:o.op = .call { callee := .value (.func f),args:=args,argTypes:=ts }) (g:Gam C s X β a.tmps w)
    (hx:∀ z∈args.toList,zbn (cx C s β w) (zbs s z) (a.eval z)) {n j off d:Nat} {ys:List Int} {r:List AV} (hin:zrC (opsL s args.toList)=some (n,j,off,ys,r)) (hinner:c.sig.inner=true)
    (hy:(innerCall s d c n j off ys r).Yields (av,s')) (hK:Goes C X o a av s' K):o.wp P a w K Q:=by
  have hops:opsL s args.toList = .v false [.dc n j off ys] :: r:=by
    unfold zrC at hin
    split at hin
    · rename_i h; cases hin; exact h
    · cases hin
  unfold innerCall at hy
  split at hy
  · rename_i t xs xin hl _ hbare hread hb
    obtain ⟨hfine,hports⟩:=Bool.and_eq_true_iff.1 hb
    obtain ⟨p,hp,hf⟩:=hy
    obtain ⟨hsh,htup,hrl⟩:=ztt hinner
    cases hrun:c.run xin with
    | none=>rw[hrun] at hp; cases hp
    | some y =>
    rw[hrun,Option.bind_some] at hp
    split at hp
    · rename_i zs hzs
      cases hxe:xs[j]? with
      | none=>rw[hxe] at hp; cases hp
      | some e =>
      rw[hxe,Option.bind_some] at hp
      split at hp
      · rename_i l hpatch
        split at hp
        · rename_i e' hel
          split at hp
          case h_2=>cases hp
          rename_i mz hmz
          cases hp
          cases hf
          -- the arguments
          have hlen:(opsL s args.toList).length=(args.toList.map a.eval).length:=by rw[ze6,List.length_map]
          have hav:=zrq hx
          rw[hops] at hlen hav
          cases hargs0:args.toList.map a.eval with
          | nil=>rw[hargs0] at hlen; simp at hlen
          | cons v0 vr =>
          rw[hargs0] at hlen hav
          obtain ⟨a1,e1,hdc,_⟩:=hav 0 _ v0 rfl rfl
          cases e1
          obtain ⟨hoff,el,q1,q2,vs,hβ,hv0⟩:=hdc false t xs hl
          rw[hxe] at q1; cases q1
          have hent:=g.ents n _ _ hl hβ
          have hown:OwnI (cx C s β w) ys v0:=zpc hent hxe hoff q2 hv0
          obtain ⟨sv,us,e2,hus,hndT,hcd,hTop⟩:=hent
          cases e2
          have hj:j < xs.length:=(List.getElem?_eq_some_iff.1 hxe).1
          have hu0:us[j * t.size+off]? = some v0:=by
            have:1+j * t.size+off=(j * t.size+off)+1:=by omega
            rw[this] at hv0
            simpa using hv0
          have hmem:∀ b∈zby v0,b∈zaJ (.tuple (sv :: us).toArray):=fun b hb=>List.mem_flatMap.2 ⟨v0,by simp[List.mem_of_getElem? hu0],hb⟩
          have hfresh:∀ b∈zby v0,¬ C.keep b∧b < w.heap.size:=fun b hb=>g.fresh b ⟨n,_,_,hl,rfl,hβ,hmem b hb⟩
          let C0:Bs:=⟨fun b=>b < w.heap.size∧b ∉ zby v0,w,fun _=>True,fun k=>if k=63 then some v0 else none,C.fix,fun _=>True⟩
          let β0:Nat→Option Value:=fun k=>if k=63 then some v0 else none
          have look0:∀ k f,look k (zda ys r).ents=some f→k=63∧f = .arr false .int ys:=fun k f h=>by
            simp only[zda,zaK] at h
            split at h
            · rename_i hk; cases h; exact ⟨hk,rfl⟩
            · cases h
          have top0:∀ b,b∈zaJ v0→b∈zby v0:=fun b hb=>by
            have ts:∀ ad k c,zaJ (.slice ad k c)=zby (.slice ad k c):=fun ad k c=>by cases ad<;>cases c<;>rfl
            rcases hown with ⟨_,ad,rfl⟩ | ⟨_,_,_,_,rfl,_⟩<;>(rw[← ts]; exact hb)
          have ga:Gam C0 (zda ys r) NoX β0 (v0 :: vr).toArray w:=by
            refine ⟨by simpa [zda] using hlen,fun t1 b _ hb=>?_,fun k f z h1 h2=>?_,fun k m f1 f2 _ _ _ h1 h2 _ _ _ _ _ _=>?_,fun b hb=>?_,fun b hb=>hb.1,Kp.refl _ _,fun k z h1 _=>h1,fun k hk=>?_,fun k f h=>?_,fun b p hp=>⟨⟨trivial,g.kb b (g.fx b p hp).1.2,fun ht=>(hfresh b ht).1 (g.fx b p hp).1.2⟩,g.fxw b p hp⟩⟩
            · have hlt:t1 < (v0 :: vr).length:=by rw[← hlen]; exact (List.getElem?_eq_some_iff.1 hb).1
              have hlt':t1 < vr.length+1:=by simpa using hlt
              have he:(v0 :: vr).toArray.getD t1 undef=(v0 :: vr)[t1]:=by simp[Array.getD,hlt']
              rw[he]
              cases t1 with
              | zero =>
                simp only[zda,List.getElem?_cons_zero,Option.some.injEq] at hb
                subst hb
                refine ⟨_,rfl,fun _ _ _ _=>rfl,.inr ?_⟩
                rcases hown with ⟨_,ad,rfl⟩ | ⟨_,_,_,_,rfl,_⟩<;>rfl
              | succ t1 =>
                have hb':r[t1]? = some b:=by simpa [zda] using hb
                exact bare_go hbare t1 b _ hb' (hav (t1+1) b _ (by simpa using hb') (List.getElem?_eq_getElem hlt))
            · obtain ⟨rfl,rfl⟩:=look0 k f h1
              cases h2
              exact hown.go fun _ _=>rfl
            · rw[(look0 k f1 h1).1,(look0 m f2 h2).1]
            · obtain ⟨k,f,z,h1,_,h3,h4⟩:=hb
              obtain ⟨rfl,rfl⟩:=look0 k f h1
              cases h3
              exact ⟨fun hk=>hk.2 (top0 b h4),(hfresh b (top0 b h4)).2⟩
            · by_cases h:k=63
              · rw[h]
              · simp[C0,h] at hk
            · rw[(look0 k f h).1]; rfl
          have hwk:=Tm.zvN hread (fz:=false) zrJ
          unfold Oper.wp
          rw[zxJ hcall ho]
          simp only[Oper.upon_enter]
          have hargs:(args.map a.eval)=(v0 :: vr).toArray:=Array.ext' (by rw[Array.toList_map,hargs0])
          rw[hargs]
          rw[← hsh] at hwk
          refine (hM _ w _ _ xin y (by rfl) hrun (zzQ ga hwk)).mono ?_
          rintro ex w' ⟨vs2,β2,rfl,hkp,G2⟩
          obtain ⟨β3,G3,hav3⟩:=call_out (s:=zda ys r) (avs:=(zda ys r).env) (d:=d) ga ga hwk hfine hports (fun _=>hrl) hkp G2
          obtain ⟨k,z,hres⟩:=zFG hinner (zcS (c.sig.tin.src (zda ys r)) d) (c.out y)
          have hval:zbn (cx C0 (zgs (zda ys r) d c.sig (c.sig.tin.src (zda ys r)) (c.out y)).2 β3 w') (zvU c.sig.tup (zHr (zcS (c.sig.tin.src (zda ys r)) d) (c.sig.zmq.enc (c.out y)).env)) (znK c.sig.tup vs2):=hav3
          rw[hres] at hval
          have hp3:β3 63=some v0:=G3.pin 63 v0 rfl (by rw[hzs]; rfl)
          have hnew:OwnI (cx C0 (zgs (zda ys r) d c.sig (c.sig.tin.src (zda ys r)) (c.out y)).2 β3 w') zs v0:=G3.ents 63 _ _ hzs hp3
          have hkp3:=G3.below
          have hblock:∀ b,b < w.heap.size→b ∉ zby v0→w'.heap[b]? = w.heap[b]? := fun b h1 h2=>hkp3.block b ⟨h1,h2⟩
          -- the deep array behind the call
          obtain ⟨p1,p2⟩:=zgU _ _ _ _ hpatch
          obtain ⟨xt,g1,rfl⟩:=zjA hel
          rw[zdG,zas] at p1
          have hlt:((zcp (t.cells e)).take off).length=off:=by rw[List.length_take,zdG,zas]; omega
          have hnc:∀ (k:Nat) (cc:Cell),(t.cells (t.mk xt))[k]? = some cc→if k=off then cc = .sl .int zs else (t.cells e)[k]? = some cc:=fun k cc hk=>by
            rw[zgc] at hk
            obtain ⟨b,ck,z,h1,h2,rfl⟩:=zhh g1 k cc hk
            rw[p2,zco,hlt] at h1
            simp only[List.length_singleton] at h1
            split
            · rename_i hko
              subst hko
              rw[if_neg (by omega),if_pos (by omega),Nat.sub_self] at h1
              simp only[List.getElem?_cons_zero,Option.some.injEq] at h1
              subst h1
              exact (zgJ (by cases ck<;>exact h2)).symm
            · rename_i hko
              have hb:(zcp (t.cells e))[k]? = some b:=by
                by_cases h:k < off
                · rw[if_pos h,List.getElem?_take_of_lt h] at h1; exact h1
                · rw[if_neg h,if_neg (by omega),List.getElem?_drop,show off+1+(k - off - 1)=k from by omega] at h1; exact h1
              rw[zl6] at hb
              cases hc:(t.cells e)[k]? with
              | none=>rw[hc] at hb; cases hb
              | some c0 =>
                rw[hc] at hb
                simp only[Option.map_some,Option.some.injEq] at hb
                subst hb
                rw[zgJ (show ck.get c0=some z by cases ck<;>exact h2)]
          have hnd2:∀ b∈zby sv,b ∉ us.flatMap zby:=by
            rw[List.flatMap_cons] at hndT
            have:=List.nodup_append.1 hndT
            exact fun b h1 h2=>this.2.2 b h1 b h2 rfl
          have hndu:(us.flatMap zby).Nodup:=by
            rw[List.flatMap_cons] at hndT
            exact (List.nodup_append.1 hndT).2.1
          have hother:∀ (k:Nat) (b:Value),us[k]? = some b→k≠j * t.size+off→∀ bl∈zby b,bl ∉ zby v0:=fun k b hk hne bl h1 h2=>hne (zyl hndu hk hu0 h1 h2)
          have gp := g.zF4 (w':=w') (xs':=xs.set j (t.mk xt)) (vs':=(sv :: us).toArray) (K:=[]) hl hβ (fun k hk=>by cases hk) (fun hk=>by cases hk) rfl (by simp) (fun _=>rfl)
            (fun b hlt hb=>hblock b hlt fun h=>hb (hmem b h)) hkp3.size (hkp3.mono fun b hb=>⟨g.kb b hb,fun h=>(hfresh b h).1 hb⟩) (fun b hb => .inl hb) (fun yc hyw=>by
              refine ⟨sv,us,rfl,by simpa using hus,hndT,hcd,?_⟩
              rcases hTop with ⟨h0,_⟩ | ⟨gb,cap,cur,T,k1,k2,k3,k4,k5,k6,k7⟩
              · subst h0; simp at hj
              · have hgb:gb∈zby sv:=by rw[k1]; cases cap with | zero=>omega | succ k=>simp[zby]
                have hgbn:gb ∉ zby v0:=fun h=>hnd2 gb hgb (List.mem_flatMap.2 ⟨v0,List.mem_of_getElem? hu0,h⟩)
                have hgbs:gb < w.heap.size:=(g.fresh gb ⟨n,_,_,hl,rfl,hβ,List.mem_flatMap.2 ⟨sv,by simp,hgb⟩⟩).2
                refine .inr ⟨gb,cap,cur,T,by simpa using k1,k2,by simpa using k3,k4,by rw[hyw,hblock gb hgbs hgbn]; exact k5,k6,fun idx cc hc=>?_⟩
                have stay:∀ c0,(flat t xs)[idx]? = some c0→idx≠j * t.size+off→∃ u b,cur[idx]? = some u∧us[idx]? = some b∧zex yc u c0 b:=fun c0 hc0 hne=>by
                  obtain ⟨u,b,m1,m2,m3⟩:=k7 idx c0 hc0
                  refine ⟨u,b,m1,m2,m3.go fun bl hbl=>?_⟩
                  rw[hyw]
                  refine hblock bl ?_ (hother idx b m2 hne bl hbl)
                  exact (g.fresh bl ⟨n,_,_,hl,rfl,hβ,List.mem_flatMap.2 ⟨b,by simp[List.mem_of_getElem? m2],hbl⟩⟩).2
                have hfl:=zaQ t xs
                have hjl:(j+1) * t.size≤xs.length * t.size:=Nat.mul_le_mul_right _ (by omega)
                rw[Nat.add_mul,Nat.one_mul] at hjl
                rw[flat_set t _ xs j hj,zco] at hc
                have hlt2:((flat t xs).take (j * t.size)).length=j * t.size:=by rw[List.length_take]; omega
                rw[hlt2,zas] at hc
                by_cases h:idx < j * t.size
                · rw[if_pos h,List.getElem?_take_of_lt h] at hc
                  exact stay cc hc (by omega)
                · rw [if_neg h] at hc
                  by_cases h':idx < j * t.size+t.size
                  · rw [if_pos h'] at hc
                    have hkk:=hnc _ cc hc
                    have hfg:=flat_get t xs j e (idx - j * t.size) hxe (by omega)
                    rw[show j * t.size+(idx - j * t.size)=idx from by omega] at hfg
                    by_cases ho2:idx - j * t.size=off
                    · rw[if_pos ho2] at hkk
                      subst hkk
                      have hidx:idx=j * t.size+off:=by omega
                      obtain ⟨u,b,m1,m2,m3⟩:=k7 idx _ (by rw[hfg,ho2]; exact q2)
                      rw[hidx,hu0] at m2; cases m2
                      have hvu:v0=u:=m3.1
                      subst hvu
                      exact ⟨v0,v0,m1,by rw[hidx]; exact hu0,rfl,hnew.go fun _ _=>by rw[hyw]; rfl⟩
                    · rw[if_neg ho2] at hkk
                      exact stay cc (by rw[hfg]; exact hkk) (by omega)
                  · rw[if_neg h',List.getElem?_drop] at hc
                    rw[show j * t.size+t.size+(idx - j * t.size - t.size)=idx from by omega] at hc
                    exact stay cc hc (by omega))
          have hmz':intOf (zvU c.sig.tup (zHr (zcS (c.sig.tin.src (zda ys r)) d) (c.sig.zmq.enc (c.out y)).env))=some mz:=hmz
          rw[hres] at hmz'
          obtain ⟨rfl,rfl⟩:k = .i64∧z=mz:=by
            cases k<;>simp[intOf] at hmz'
            exact ⟨rfl,hmz'⟩
          have hint:=zfu hval
          have hfin:=hK (znK c.sig.tup vs2) w' _ gp (by
            rw[hint]; exact zbi)
          exact hfin
        · cases hp
      · cases hp
    · cases hp
  · exact hy.elim
theorem call_core {c:Con} {f:FuncId} (hM:zax P C.fix f c) {avs:List AV} {vals:List Value} (hrun0:(execOp a.eval o).run P w = .ok (.enter f vals.toArray) w) (g:Gam C s X β a.tmps w)
    (hlen:avs.length=vals.length) (hget:∀ (j:Nat) av v,avs[j]? = some av→vals[j]? = some v→zbn (cx C s β w) av v)
    (hy:(zqR s (o.dst.getD 0) c avs).Yields (av,s')) (hK:Goes C X o a av s' K):o.wp P a w K Q:=by
  unfold zqR at hy
  split at hy
  · rename_i xin hxin hb
    obtain ⟨hb1,hnames⟩:=Bool.and_eq_true_iff.1 hb
    obtain ⟨htup,hfine⟩:=Bool.and_eq_true_iff.1 hb1
    obtain ⟨y,hrun,hf⟩:=hy
    cases hf
    unfold Oper.wp
    rw[hrun0]
    simp only[Oper.upon_enter]
    have key:∃ l:List A1,zaZ s c.sig avs=zaB l s.ents ∧
        zpW c.sig.shares ⟨avs,zaZ s c.sig avs⟩ (zpS c.sig.tin.slots avs++zlC (zaZ s c.sig avs) (c.sig.tin.src ⟨avs,zaZ s c.sig avs⟩) c.sig.tin.ents):=by
      unfold zaZ
      cases hsh:c.sig.shares with
      | false=>exact ⟨[],rfl,zrJ⟩
      | true =>
        refine ⟨_,rfl,fun _ b hbm m hi=>?_⟩
        have hsrc:∀ l,c.sig.tin.src ⟨avs,zaB l s.ents⟩=c.sig.tin.src ⟨avs,s.ents⟩:=fun l=>by
          simp only[Tm.src]; rw[pairsE_frz]
        have hmem:b∈zwY c.sig.args avs++zlC s.ents (c.sig.tin.src ⟨avs,s.ents⟩) c.sig.ins:=by
          simp only[] at hbm
          rw[hsrc,dataE_frz,show c.sig.tin.slots=c.sig.args.map some from rfl,zmE] at hbm
          exact hbm
        refine ⟨fun t xs hl=>?_,fun t xs hl=>?_⟩
        · have:=zwT _ s.ents hmem hi hl
          cases this
        · have:=zrK _ s.ents hmem hi hl
          cases this
    obtain ⟨l,hbef,hfz⟩:=key
    generalize hes:zaZ s c.sig avs=es at *
    subst hbef
    have g1:=g.zaB l
    have ga:Gam C ⟨avs,zaB l s.ents⟩ NoX β vals.toArray w:=g1.zLU hlen fun j av v h1 h2=>by
      have h3:=hget j av v h1 h2
      cases av with
      | v gg ll=>exact VOk.conv (fun b _ v hb=>zf1 l s hb) h3
      | tup ps=>obtain ⟨vs,e1,e2⟩:=h3; exact ⟨vs,e1,e2.conv fun p _ b _ v hb=>zf1 l s hb⟩
    have hwk:=Tm.zvN hxin hfz
    refine (hM _ w _ _ xin y (by rfl) hrun (zzQ ga hwk)).mono ?_
    rintro e w' ⟨vs,β2,rfl,hkp,G2⟩
    obtain ⟨β3,G3,hav⟩:=call_out (s:=⟨s.env,zaB l s.ents⟩) (d:=o.dst.getD 0) g1 ga hwk hfine hnames (fun h=>by
      unfold Sig.zO1 at htup
      rw[h,Bool.false_or] at htup
      exact Nat.eq_of_beq_eq_true htup) hkp G2
    exact hK _ w' β3 G3 hav
  · exact hy.elim
theorem zAx (hC:zak P C.fix cons) {f:FuncId} {args:Array Operand} {ts:Array TypeId} (ho:o.op = .call { callee := .value (.func f),args:=args,argTypes:=ts }) (g:Gam C s X β a.tmps w)
  (hx:∀ z∈args.toList,zbn (cx C s β w) (zbs s z) (a.eval z)) (hy:(evalOp lay cons o s).Yields (av,s')) (hK:Goes C X o a av s' K):o.wp P a w K Q:=by
 simp only[evalOp,ho] at hy
 split at hy
 ·rename_i c hc
  obtain ⟨hM,hcall⟩:=hC f c hc
  split at hy
  ·rename_i hin hinner
   exact sound_inner hM hcall ho g hx hin hinner hy hK
  exact call_core hM (by
   rw[zxJ hcall ho]
   have hargs:(args.map a.eval)=(args.toList.map a.eval).toArray:=Array.ext' (by rw[Array.toList_map])
   rw[hargs]) g (by rw[ze6,List.length_map]) (zrq hx) hy hK
 ·exact hy.elim
theorem zDw {f:FuncId} (hf:Callable P f) {t:Nat} {vs:Array Value} (hv:a.eval (.tmp t) = .func (.func f) #[] vs) {args:Array Operand} {ts:Array TypeId} (ho:o.op = .call { callee := .value (.tmp t),args:=args,argTypes:=ts }) :
  (execOp a.eval o).run P w = .ok (.enter f (args.map a.eval++vs)) w:=by
 obtain ⟨fn,h1,h2,h3⟩:=hf
 simp only[beq_eq_false_iff_ne,ne_eq] at h2
 have h4:fn.body≠none:=by intro e; rw[e] at h3; cases h3
 simp[execOp,ho,resolve,hv,Deferred.ofValue,invoke,callFunc,h1,h2,h4]
theorem znB:∀ l:List (List Cell),(zla l).length=l.length
 | []=>rfl
 | _ :: r=>by simp[zla,znB r]
theorem zur:∀ (l:List (List Cell)) (j:Nat) (b:AV),(zla l)[j]? = some b→∃ cs,l[j]? = some cs∧b = .v false [.sp cs 0]
 | [],j,b,h=>by simp[zla] at h
 | cs :: r,0,b,h=>by simp[zla] at h; subst h; exact ⟨cs,rfl,rfl⟩
 | cs :: r,j+1,b,h=>by simpa using zur r j b (by simpa [zla] using h)
theorem zvG (hC:zak P C.fix cons) {t:Nat} {args:Array Operand} {ts:Array TypeId} (ho:o.op = .call { callee := .value (.tmp t),args:=args,argTypes:=ts }) (g:Gam C s X β a.tmps w)
    (hf:zbn (cx C s β w) (zbs s (.tmp t)) (a.eval (.tmp t))) (hx:∀ z∈args.toList,zbn (cx C s β w) (zbs s z) (a.eval z)) (hy:(evalOp lay cons o s).Yields (av,s')) (hK:Goes C X o a av s' K):o.wp P a w K Q:=by
  simp only[evalOp,ho] at hy
  split at hy
  · rename_i f css hfn
    split at hy
    · rename_i c hc
      obtain ⟨hM,hcall⟩:=hC f c hc
      have hf':zbn (cx C s β w) (.v false [.fn f css]) (a.eval (.tmp t)):=by
        have:=zc3 hfn
        rw[← this]; exact hf
      obtain ⟨a1,e1,h1,_⟩:=hf'
      cases e1
      obtain ⟨vs,hv,hsz,hcap⟩:=h1
      refine call_core hM (vals:=args.toList.map a.eval++vs.toList) (by
        rw[zDw hcall hv ho]
        have hargs:(args.map a.eval++vs)=(args.toList.map a.eval++vs.toList).toArray:=Array.ext' (by simp)
        rw[hargs]) g (by simp[ze6,znB,hsz]) (fun j b v h1 h2=>?_) hy hK
      by_cases hj:j < args.toList.length
      · rw[List.getElem?_append_left (by rw[ze6]; exact hj)] at h1
        rw[List.getElem?_append_left (by rw[List.length_map]; exact hj)] at h2
        exact zrq hx j b v h1 h2
      · rw[List.getElem?_append_right (by rw[ze6]; omega),ze6] at h1
        rw[List.getElem?_append_right (by rw[List.length_map]; omega),List.length_map] at h2
        obtain ⟨cs,q1,rfl⟩:=zur _ _ _ h1
        obtain ⟨q,o,q2,q3⟩:=hcap _ _ q1
        rw[Array.getElem?_toList,q2] at h2
        cases h2
        exact zcx (a := .sp cs 0) ⟨q,o,rfl,q3⟩ rfl
    · exact hy.elim
  · exact hy.elim
end
end Go.Di
open Go.RowKit (Below)
namespace Go.Di
section
variable {P:Program} {C:Bs} {w w':World} {s s':St} {X:Nat→Prop} {β β':Nat→Option Value} {a:Act} {o:Oper} {tm:Array Value}
 {K:Act→World→Prop} {Q:Exit→Act→World→Prop} {lay:List (TypeId × TI)} {cons:List (FuncId × Con)} {av:AV}
theorem zjy (hL:zdE P lay) (hC:zak P C.fix cons) (hwf:zHs o=true) (g:Gam C s X β a.tmps w) (hx:∀ t,Operand.tmp t∈o.op.operands→¬ X t) (hy:(evalOp lay cons o s).Yields (av,s')) (hK:Goes C X o a av s' K):o.wp P a w K Q:=by
  have op:∀ x,x∈o.op.operands→zbn (cx C s β w) (zbs s x) (a.eval x):=fun x hm=>zmv g fun t ht=>hx t (by rw[← ht]; exact hm)
  cases ho:o.op with
  | move x=>exact zp7 (.inl ho) g (op x (by rw[ho]; simp[Op.operands])) hy hK
  | assign x=>exact zp7 (.inr ho) g (op x (by rw[ho]; simp[Op.operands])) hy hK
  | pick c x y=>exact zAv ho g (op c (by rw[ho]; simp[Op.operands])) (op x (by rw[ho]; simp[Op.operands])) (op y (by rw[ho]; simp[Op.operands])) hy hK
  | alloc t=>exact zvJ hL ho g hy hK
  | box t x=>exact zCY hL ho g (op x (by rw[ho]; simp[Op.operands])) hy hK
  | build t ps=>exact zvH hL ho g (fun j z hz=>op z (by rw[ho]; simp[Op.operands]; exact ⟨j,by simpa using hz⟩)) hy hK
  | buildSlice t len ps =>
    have h1:len≤1000∧(len=0→ps.toList=[]):=by
      simp only[zHs,ho] at hwf
      cases len with
      | zero=>exact ⟨by omega,fun _=>by simpa using hwf⟩
      | succ n=>exact ⟨by simpa using hwf,fun h=>by cases h⟩
    exact sound_buildSlice hL h1.1 ho g (fun j z hz=>op z (by rw[ho]; simp[Op.operands]; exact ⟨j,by simpa using hz⟩)) h1.2 hy hK
  | load t x=>exact sound_load hL ho g (op x (by rw[ho]; simp[Op.operands])) hy hK
  | store t x y=>exact sound_store hL ho (by simp only[zHs,ho] at hwf; simpa using hwf) g (op x (by rw[ho]; simp[Op.operands])) (op y (by rw[ho]; simp[Op.operands])) hy hK
  | binOp b t x y u=>exact zvI hL ho g (op x (by rw[ho]; simp[Op.operands])) (op y (by rw[ho]; simp[Op.operands])) hy hK
  | unOp u t x=>exact zAu hL ho g (op x (by rw[ho]; simp[Op.operands])) hy hK
  | convert u t x=>exact zri hL ho g (op x (by rw[ho]; simp[Op.operands])) hy hK
  | makeSlice t x y=>exact zAw hL ho g (op x (by rw[ho]; simp[Op.operands])) (op y (by rw[ho]; simp[Op.operands])) hy hK
  | slice t x lo hi mx =>
    cases mx with
    | some m=>simp only[evalOp,ho] at hy; exact hy.elim
    | none =>
      exact sound_slice hL ho g (op x (by rw[ho]; simp[Op.operands])) (fun z hz=>op z (by rw[ho,hz]; simp[Op.operands])) (fun z hz=>op z (by rw[ho,hz]; simp[Op.operands])) hy hK
  | fieldAddr t x f=>exact zor hL ho g (op x (by rw[ho]; simp[Op.operands])) hy hK
  | field t x f=>exact zvF hL ho g (op x (by rw[ho]; simp[Op.operands])) hy hK
  | indexAddr t x y=>exact sound_indexAddr hL ho g (op x (by rw[ho]; simp[Op.operands])) (op y (by rw[ho]; simp[Op.operands])) hy hK
  | index t x y=>exact zvE hL ho g (op x (by rw[ho]; simp[Op.operands])) (op y (by rw[ho]; simp[Op.operands])) hy hK
  | extract x f=>exact sound_extract ho g (op x (by rw[ho]; simp[Op.operands])) hy hK
  | nilCheck x=>exact zCW ho g (op x (by rw[ho]; simp[Op.operands])) hy hK
  | makeFunc fn first caps =>
    cases fn with
    | func f=>exact zpK ho g hx hy hK
    | _=>simp only[evalOp,ho] at hy; exact hy.elim
  | call c =>
    obtain ⟨callee,args,ts⟩:=c
    cases callee with
    | invoke r m=>simp only[evalOp,ho] at hy; exact hy.elim
    | value f =>
      cases f with
      | func f=>exact zAx hC ho g (fun z hz=>op z (by rw[ho]; simp[Op.operands,Call.operands]; exact .inr (by simpa using hz))) hy hK
      | tmp t=>exact zvG hC ho g (op (.tmp t) (by rw[ho]; simp[Op.operands,Call.operands])) (fun z hz=>op z (by rw[ho]; simp[Op.operands,Call.operands]; exact .inr (by simpa using hz))) hy hK
      | const v=>simp only[evalOp,ho] at hy; exact hy.elim
      | global v=>simp only[evalOp,ho] at hy; exact hy.elim
    | builtin b =>
      obtain ⟨l⟩:=args
      obtain ⟨m⟩:=ts
      cases b<;>try (simp only[evalOp,ho] at hy; exact hy.elim)
      case max =>
        match l with
        | [x,y]=>exact zCX ho g (op x (by rw[ho]; simp[Op.operands,Call.operands])) (op y (by rw[ho]; simp[Op.operands,Call.operands])) hy hK
        | []=>simp only[evalOp,ho] at hy; exact hy.elim
        | [_]=>simp only[evalOp,ho] at hy; exact hy.elim
        | _ :: _ :: _ :: _=>simp only[evalOp,ho] at hy; exact hy.elim
      case len =>
        match l,m with
        | [x],[t]=>exact sound_len hL ho g (op x (by rw[ho]; simp[Op.operands,Call.operands])) hy hK
        | [],_=>simp only[evalOp,ho] at hy; exact hy.elim
        | [_],[]=>simp only[evalOp,ho] at hy; exact hy.elim
        | [_],_ :: _ :: _=>simp only[evalOp,ho] at hy; exact hy.elim
        | _ :: _ :: _,_=>simp only[evalOp,ho] at hy; exact hy.elim
      case append =>
        match l,m with
        | [x,y],[t,u]=>exact sound_append hL ho g (op x (by rw[ho]; simp[Op.operands,Call.operands])) (op y (by rw[ho]; simp[Op.operands,Call.operands])) hy hK
        | [],_=>simp only[evalOp,ho] at hy; exact hy.elim
        | [_],_=>simp only[evalOp,ho] at hy; exact hy.elim
        | [_,_],[]=>simp only[evalOp,ho] at hy; exact hy.elim
        | [_,_],[_]=>simp only[evalOp,ho] at hy; exact hy.elim
        | [_,_],_ :: _ :: _ :: _=>simp only[evalOp,ho] at hy; exact hy.elim
        | _ :: _ :: _ :: _,_=>simp only[evalOp,ho] at hy; exact hy.elim
  | _=>simp only[evalOp,ho] at hy; exact hy.elim
end
theorem zxF {tm:Array Value} {t:Nat} {v:Value} (h:tm.getD t undef=v):tm.setIfInBounds t v=tm:=by
 apply Array.ext (by simp)
 intro j h1 h2
 rw[Array.getElem_setIfInBounds h2]
 split
 ·rename_i e; subst e
  simp[Array.getD,h2] at h; exact h.symm
 ·rfl
section
variable {P:Program} {C:Bs} {w w':World} {s s':St} {X:Nat→Prop} {β':Nat→Option Value} {a:Act} {o:Oper} {tm:Array Value} {β:Type} {bt:Nat→Option Value}
 {K:Act→World→Prop} {Q:Exit→Act→World→Prop} {E:Env} {k:St→Option β} {r:β}
def zQv (C:Bs) (k:St→Option β) (r:β) (K:Act→World→Prop):Prop:=∀ s bt a w,Gam C s NoX bt a.tmps w→a.defers=[]→k s=some r→K a w
theorem zms (hL:zdE P E.lay) (hC:zak P C.fix E.cons) (g:Gam C s NoX bt a.tmps w) (hd:a.defers=[]) (h:zAl E o s k=some r) (hK:zQv C k r K):o.wp P a w K Q:=by
 unfold zAl at h
 split at h
 ·rename_i hwf
  obtain ⟨⟨av,s'⟩,hy,hk⟩:=zqT h
  refine zjy hL hC hwf g (fun t _ hx=>hx) hy fun v w' bt' g' hav=>?_
  cases hdst:o.dst with
  | none=>rw[hdst] at hk; exact hK _ bt' _ w' g' hd hk
  | some t=>rw[hdst] at hk; exact hK _ bt' { a with tmps:=a.tmps.setIfInBounds t v } w' (g'.zrl hav) hd hk
 ·cases h
theorem zld (g:Gam C s NoX bt a.tmps w) {t:Nat} {kb:Bool→St→Option β} (h:zlJ s t kb=some r) :
    ∃ c s1,a.tmps[t]? = some (.bool c)∧Gam C s1 NoX bt a.tmps w∧kb c s1=some r:=by
  unfold zlJ at h
  split at h
  · rename_i c hc
    have hv:zbn (cx C s bt w) (.v false [.d (.bool c)]) (a.tmps.getD t undef):=by
      have:=zmv g (x := .tmp t) (fun _ _ hx=>hx)
      simp only[zbs,Act.eval] at this
      rw[hc] at this; exact this
    have hb:=zhg hv
    have hlt:t < a.tmps.size:=by
      rcases Nat.lt_or_ge t a.tmps.size with h' | h'
      · exact h'
      · simp[Array.getD,Nat.not_lt.2 h',undef] at hb
    have hget:a.tmps[t]? = some (.bool c):=by
      rw[Array.getElem?_eq_getElem hlt]; simp[Array.getD,hlt] at hb; rw[hb]
    have gset:∀ b,c=b→Gam C (s.set t (.one (.d (.bool b)))) NoX bt a.tmps w:=by
      intro b hcb
      have:=g.zrl (t:=t) (a := .one (.d (.bool b))) (v := .bool b) zch
      rwa [zxF (by rw[hb,hcb])] at this
    cases c with
    | true=>exact ⟨true,_,hget,gset true rfl,h⟩
    | false=>exact ⟨false,_,hget,gset false rfl,h⟩
  · cases h
theorem runOp_sound (hL:zdE P E.lay) (hC:zak P C.fix E.cons) {ops:Array Oper} (g:Gam C s NoX bt a.tmps w) (hd:a.defers=[]) (h:runOp E ops.toList o s k=some r) (hK:zQv C k r K) :
    if Region.wanted o (yielded ops a.tmps) then o.wp P a w K Q else K (a.put o.dst undef) w:=by
  unfold runOp at h
  split at h
  · rename_i hg
    rw[if_pos (by simp[Region.wanted,hg])]
    exact zms hL hC g hd h hK
  · rename_i j p hg
    split at h
    · rename_i o2 t _ _ _ _ _ hj
      have hj':=hj
      rw[Array.getElem?_toList] at hj'
      have skip:∀ s1,Gam C s1 NoX bt a.tmps w→zAy o s1 k=some r→K (a.put o.dst undef) w:=by
        intro s1 g1 hk
        unfold zAy at hk
        cases hdst:o.dst with
        | none=>rw[hdst] at hk; exact hK _ bt _ w g1 hd hk
        | some u=>rw[hdst] at hk; exact hK _ bt { a with tmps:=a.tmps.setIfInBounds u undef } w (g1.zrl zOq) hd hk
      split at h
      · rename_i hun
        have hv:=zmv g (x := .tmp t) (fun _ _ hx=>hx)
        simp only[zbs,Act.eval] at hv
        rw[hun] at hv
        have hv:=zAa hv
        have hy:yielded ops a.tmps j=none:=by
          unfold yielded
          rw[hj']
          simp only[Option.bind_some]
          cases hg':a.tmps[t]? with
          | none=>rfl
          | some v =>
            have:v=undef:=by
              have hlt:=(Array.getElem?_eq_some_iff.1 hg').1
              have:=(Array.getElem?_eq_some_iff.1 hg').2
              simp[Array.getD,hlt] at hv
              rw[← this,hv]
            subst this; rfl
        have hw:Region.wanted o (yielded ops a.tmps)=false:=by
          simp only[Region.wanted,hg,hy]; rfl
        rw[hw]
        exact skip s g h
      · obtain ⟨c,s1,hget,g1,hk⟩:=zld g h
        have hy:yielded ops a.tmps j=some c:=by
          simp[yielded,hj',hget]
        have hw:Region.wanted o (yielded ops a.tmps)=(c==p):=by
          simp only[Region.wanted,hg,hy]
          cases c<;>cases p<;>rfl
        rw[hw]
        cases c<;>cases p
        · exact zms hL hC g1 hd hk hK
        · exact skip s1 g1 hk
        · exact skip s1 g1 hk
        · exact zms hL hC g1 hd hk hK
    · cases h
theorem znx (hL:zdE P E.lay) (hC:zak P C.fix E.cons) {ops:Array Oper}:∀ (l:List Oper) {s:St} {bt:Nat→Option Value} {a:Act} {w:World},Gam C s NoX bt a.tmps w→a.defers=[]→zDx E ops.toList l s k=some r →
    zQv C k r (fun a w=>Q .normal a w)→wpList P ops Q l a w
  | [],s,bt,a,w,g,hd,h,hK=>hK s bt a w g hd h
  | o :: l,s,bt,a,w,g,hd,h,hK=>by
    refine wpList_step fun K hK'=>?_
    exact runOp_sound hL hC g hd h fun s' bt' a' w' g' hd' h'=>hK' a' w' (znx hL hC l g' hd' h' hK)
end
end Go.Di
open Go.RowKit (Below)
namespace Go.Di
def zcV (n:Nat) (s s':St):Prop:=(look n s'.ents).map frz=(look n s.ents).map frz
theorem zcV.arr {n:Nat} {s s':St} (h:zcV n s s') {fr:Bool} {t:ST} {xs:List t.El} (hl:look n s.ents=some (.arr fr t xs)):∃ fr',look n s'.ents=some (.arr fr' t xs):=by
  unfold zcV at h
  rw[hl] at h
  cases h':look n s'.ents with
  | none=>rw[h'] at h; cases h
  | some e =>
    rw[h'] at h
    cases e with
    | box l=>simp[frz] at h
    | deep _ u ys=>simp[frz] at h
    | arr fr' u ys =>
      simp only[frz,Option.map_some,Option.some.injEq] at h
      cases h; exact ⟨_,rfl⟩
theorem zcV.deep {n:Nat} {s s':St} (h:zcV n s s') {fr:Bool} {t:ST} {xs:List t.El} (hl:look n s.ents=some (.deep fr t xs)):∃ fr',look n s'.ents=some (.deep fr' t xs):=by
  unfold zcV at h
  rw[hl] at h
  cases h':look n s'.ents with
  | none=>rw[h'] at h; cases h
  | some e =>
    rw[h'] at h
    cases e with
    | box l=>simp[frz] at h
    | arr fr' u ys=>simp[frz] at h
    | deep fr' u ys =>
      simp only[frz,Option.map_some,Option.some.injEq] at h
      cases h; exact ⟨_,rfl⟩
theorem zcV.box {n:Nat} {s s':St} (h:zcV n s s') {l:List A1} (hl:look n s.ents=some (.box l)):look n s'.ents=some (.box l):=by
  unfold zcV at h
  rw[hl] at h
  cases h':look n s'.ents with
  | none=>rw[h'] at h; cases h
  | some e =>
    rw[h'] at h
    cases e with
    | box l'=>simp only[frz,Option.map_some,Option.some.injEq] at h; rw[h]
    | arr fr' u ys=>simp[frz] at h
    | deep _ u ys=>simp[frz] at h
theorem zcV.some {n:Nat} {s s':St} (h:zcV n s s') {e:Ent} (hl:look n s.ents=some e):∃ e',look n s'.ents=some e':=by
 unfold zcV at h
 rw[hl] at h
 cases h':look n s'.ents with
 | none=>rw[h'] at h; cases h
 | some e=>exact ⟨e,rfl⟩
section
variable {s s' s1:St} {av:AV} {lay:List (TypeId × TI)} {cons:List (FuncId × Con)} {o:Oper}
theorem ztn {i:TI} {a:A1} (h:∀ n∈a.nms,zcV n s s') (hy:(lenOp s i a).Yields (av,s1)):s1=s∧(lenOp s' i a).Yields (av,s'):=by
  unfold lenOp at hy ⊢
  cases a with
  | d c =>
    cases c with
    | str a =>
      simp only at hy ⊢
      split at hy
      · cases hy; exact ⟨rfl,rfl⟩
      · exact hy.elim
    | sl t xs =>
      simp only at hy ⊢
      split at hy
      · exact hy.elim
      · cases hy; exact ⟨rfl,rfl⟩
    | int k n=>simp only at hy; split at hy<;>exact hy.elim
    | bool b=>simp only at hy; split at hy<;>exact hy.elim
  | mt =>
    simp only at hy ⊢
    split at hy
    · exact hy.elim
    · cases hy; exact ⟨rfl,rfl⟩
  | own n =>
    have hn:=h n (by simp[A1.nms])
    simp only at hy ⊢
    split at hy
    · exact hy.elim
    · split at hy
      · rename_i hl
        obtain ⟨fr',hl'⟩:=hn.arr hl
        rw[hl']
        cases hy; exact ⟨rfl,rfl⟩
      · exact hy.elim
  | win n lo k =>
    have hn:=h n (by simp[A1.nms])
    simp only at hy ⊢
    split at hy
    · exact hy.elim
    · split at hy
      · rename_i hl
        obtain ⟨fr',hl'⟩:=hn.arr hl
        rw[hl']
        cases hy; exact ⟨rfl,rfl⟩
      · exact hy.elim
  | bot=>simp only at hy; split at hy<;>exact hy.elim
  | lp n k=>simp only at hy; split at hy<;>exact hy.elim
  | sp c k=>simp only at hy; split at hy<;>exact hy.elim
  | oe n j k=>simp only at hy; split at hy<;>exact hy.elim
  | de n j k=>simp only at hy; split at hy<;>exact hy.elim
  | fn f c=>simp only at hy; split at hy<;>exact hy.elim
  | dp n =>
    have hn:=h n (by simp[A1.nms])
    simp only at hy ⊢
    split at hy
    · exact hy.elim
    · split at hy
      · rename_i hl
        obtain ⟨fr',hl'⟩:=hn.deep hl
        rw[hl']
        cases hy; exact ⟨rfl,rfl⟩
      · exact hy.elim
  | dc n i j ys =>
    have hn:=h n (by simp[A1.nms])
    simp only at hy ⊢
    split at hy
    · exact hy.elim
    · split at hy
      · rename_i hl
        obtain ⟨fr',hl'⟩:=hn.deep hl
        rw[hl']
        cases hy; exact ⟨rfl,rfl⟩
      · exact hy.elim
theorem zwN {e:ST} {a:A1} {i:Int} (h:∀ n∈a.nms,zcV n s s') (hy:(indexOp s e a i).Yields (av,s1)):s1=s∧(indexOp s' e a i).Yields (av,s'):=by
  unfold indexOp at hy ⊢
  cases a with
  | d c =>
    cases c with
    | sl t xs =>
      simp only at hy ⊢
      split at hy
      · obtain ⟨r,h1,h2⟩:=hy; cases h2; exact ⟨rfl,r,h1,rfl⟩
      · exact hy.elim
    | str a=>exact hy.elim
    | int k n=>exact hy.elim
    | bool b=>exact hy.elim
  | own n =>
    have hn:=h n (by simp[A1.nms])
    simp only at hy ⊢
    split at hy
    · rename_i hl
      obtain ⟨fr',hl'⟩:=hn.arr hl
      rw[hl']
      simp only
      split at hy
      · obtain ⟨r,h1,h2⟩:=hy; cases h2; exact ⟨rfl,r,h1,rfl⟩
      · exact hy.elim
    · exact hy.elim
  | win n lo k =>
    have hn:=h n (by simp[A1.nms])
    simp only at hy ⊢
    split at hy
    · rename_i hl
      obtain ⟨fr',hl'⟩:=hn.arr hl
      rw[hl']
      simp only
      split at hy
      · obtain ⟨r,h1,h2⟩:=hy; cases h2; exact ⟨rfl,r,h1,rfl⟩
      · exact hy.elim
    · exact hy.elim
  | dp n =>
    have hn:=h n (by simp[A1.nms])
    simp only at hy ⊢
    split at hy
    · rename_i hl
      obtain ⟨fr',hl'⟩:=hn.deep hl
      rw[hl']
      simp only
      split at hy
      · obtain ⟨r,h1,h2⟩:=hy; cases h2; exact ⟨rfl,r,h1,rfl⟩
      · exact hy.elim
    · exact hy.elim
  | bot=>exact hy.elim
  | mt=>exact hy.elim
  | lp n k=>exact hy.elim
  | sp c k=>exact hy.elim
  | oe n j k=>exact hy.elim
  | de n j k=>exact hy.elim
  | dc n i j ys=>exact hy.elim
  | fn f c=>exact hy.elim
theorem zBe {g:Bool} {k:Nat} {a:A1} (h:∀ n∈a.nms,zcV n s s') (hy:(loadOp s g k a).Yields (av,s1)):s1=s∧(loadOp s' g k a).Yields (av,s'):=by
  unfold loadOp at hy ⊢
  cases a with
  | lp n off =>
    have hn:=h n (by simp[A1.nms])
    simp only at hy ⊢
    split at hy
    · rename_i hl
      rw[hn.box hl]
      simp only
      split at hy
      · cases hy; exact ⟨rfl,rfl⟩
      · exact hy.elim
    · exact hy.elim
  | sp c off =>
    simp only at hy ⊢
    split at hy
    · cases hy; exact ⟨rfl,rfl⟩
    · exact hy.elim
  | oe n j off =>
    have hn:=h n (by simp[A1.nms])
    simp only at hy ⊢
    split at hy
    · rename_i hl
      obtain ⟨fr',hl'⟩:=hn.arr hl
      rw[hl']
      simp only
      split at hy
      · obtain ⟨r,h1,h2⟩:=hy; cases h2; exact ⟨rfl,r,h1,rfl⟩
      · exact hy.elim
    · exact hy.elim
  | de n j off =>
    have hn:=h n (by simp[A1.nms])
    simp only at hy ⊢
    split at hy
    · rename_i hl
      obtain ⟨fr',hl'⟩:=hn.deep hl
      rw[hl']
      simp only
      split at hy
      · obtain ⟨r,h1,h2⟩:=hy; cases h2; exact ⟨rfl,r,h1,rfl⟩
      · exact hy.elim
    · exact hy.elim
  | d c=>exact hy.elim
  | own n=>exact hy.elim
  | win n lo k=>exact hy.elim
  | bot=>exact hy.elim
  | mt=>exact hy.elim
  | dp n=>exact hy.elim
  | dc n i j ys=>exact hy.elim
  | fn f c=>exact hy.elim
theorem zvK {i:TI} {a:A1} {lo hi:Option AV} (h:∀ n∈a.nms,zcV n s s') (hy:(sliceOp s i a lo hi).Yields (av,s1)):s1=s∧(sliceOp s' i a lo hi).Yields (av,s'):=by
  unfold sliceOp at hy ⊢
  cases a with
  | d c =>
    cases c with
    | sl t xs =>
      simp only at hy ⊢
      split at hy
      · obtain ⟨r,h1,h2⟩:=hy; cases h2; exact ⟨rfl,r,h1,rfl⟩
      · exact hy.elim
    | str a =>
      simp only at hy ⊢
      split at hy
      · obtain ⟨r,h1,h2⟩:=hy; cases h2; exact ⟨rfl,r,h1,rfl⟩
      · exact hy.elim
    | int k n=>exact hy.elim
    | bool b=>exact hy.elim
  | own n =>
    have hn:=h n (by simp[A1.nms])
    simp only at hy ⊢
    split at hy
    · rename_i hl
      obtain ⟨fr',hl'⟩:=hn.arr hl
      rw[hl']
      simp only
      split at hy
      · obtain ⟨r,h1,h2⟩:=hy; cases h2; exact ⟨rfl,r,h1,rfl⟩
      · exact hy.elim
    · exact hy.elim
  | lp n off=>exact hy.elim
  | sp c off=>exact hy.elim
  | oe n j off=>exact hy.elim
  | win n lo k=>exact hy.elim
  | bot=>exact hy.elim
  | mt=>exact hy.elim
  | dp n=>exact hy.elim
  | de n j k=>exact hy.elim
  | dc n i j ys=>exact hy.elim
  | fn f c=>exact hy.elim
theorem parts_local {fs:List (Nat × Nat × Bool)}:∀ {ps:List (Nat × Operand)} {l:List A1},(∀ p∈ps,zbs s' p.2=zbs s p.2)→partsOf fs s' ps l=partsOf fs s ps l
  | [],l,_=>rfl
  | (i, x) :: r,l,h=>by
    have hx:=h _ (List.mem_cons_self ..)
    simp only at hx
    unfold partsOf
    rw[hx]
    split
    · split
      · split
        · split
          · exact parts_local fun p hp=>h p (List.mem_cons_of_mem _ hp)
          · rfl
        · rfl
      · rfl
    · rfl
theorem zuq (t:ST) (xs:List t.El):ST.cast t t xs=some xs:=by cases t<;>rfl
theorem zuF {t:ST} {a:A1} {xs:List t.El} (h:∀ n∈a.nms,zcV n s s') (hl:zjE s.ents t a=some xs):zjE s'.ents t a=some xs:=by
  obtain ⟨hd,hl⟩:=zuG hl
  unfold zjE
  rw[hd]
  show a.as s'.ents (.sl t)=some xs
  cases a with
  | own n =>
    obtain ⟨fr,h1⟩:=zAb hl
    obtain ⟨fr',h2⟩:=(h n (by simp[A1.nms])).arr h1
    show (match look n s'.ents with | some (.arr _ u xs)=>ST.cast u t xs | _=>none)=some xs
    rw[h2]; exact zuq t xs
  | win n lo k =>
    obtain ⟨fr,ys,h1,rfl⟩:=zG7 hl
    obtain ⟨fr',h2⟩:=(h n (by simp[A1.nms])).arr h1
    show (match look n s'.ents with | some (.arr _ u xs)=>ST.cast u t (cut xs lo (lo+k)) | _=>none)=some (cut ys lo (lo+k))
    rw[h2]; exact zuq t _
  | d c=>exact hl
  | mt=>exact hl
  | dp n=>cases hd
  | de n i k=>cases hd
  | dc n i k ys=>cases hd
  | bot=>simp[A1.as] at hl
  | lp n k=>simp[A1.as] at hl
  | sp c k=>simp[A1.as] at hl
  | oe n i k=>simp[A1.as] at hl
  | fn f c=>simp[A1.as] at hl
theorem zfv {a:AV} {b:A1} (h:addrOf a=some b):b.nms ⊆ a.nms:=by
 unfold addrOf at h
 split at h
 ·cases h; simp[AV.nms,zxW]
 ·cases h
theorem zFF {k:IntKind} {a b:Int} {op:BinOp} (hy:(zwM s k a b op).Yields (av,s1)):s1=s∧(zwM s' k a b op).Yields (av,s'):=by
 cases op<;>simp only[zwM] at hy ⊢<;>first | (exact hy.elim) | (cases hy; exact ⟨rfl,rfl⟩) | (obtain ⟨r,h1,h2⟩:=hy; cases h2; exact ⟨rfl,r,h1,rfl⟩)
theorem zG2 {g:Bool} {op:BinOp} {x y:AV} (hy:(binOp s g op x y).Yields (av,s1)):s1=s∧(binOp s' g op x y).Yields (av,s'):=by
 unfold binOp at hy ⊢
 split at hy
 ·split at hy
  ·exact zFF hy
  ·split at hy
   ·obtain ⟨r,h1,h2⟩:=hy; cases h2; exact ⟨rfl,r,h1,rfl⟩
   ·exact hy.elim
 ·split at hy
  ·split at hy
   ·cases hy; exact ⟨rfl,rfl⟩
   ·cases hy; exact ⟨rfl,rfl⟩
   ·exact hy.elim
  ·exact hy.elim
 ·split at hy
  ·cases hy; exact ⟨rfl,rfl⟩
  ·cases hy; exact ⟨rfl,rfl⟩
  ·obtain ⟨r,h1,h2⟩:=hy; cases h2; exact ⟨rfl,r,h1,rfl⟩
  ·exact hy.elim
 ·exact hy.elim
theorem pure_local (hp:zhS o=true) (hop:∀ x∈o.op.operands,zbs s' x=zbs s x) (hlk:∀ x∈o.op.operands,∀ n∈(zbs s x).nms,zcV n s s')
    (hy:(evalOp lay cons o s).Yields (av,s1)):s1=s∧(evalOp lay cons o s').Yields (av,s'):=by
  unfold zhS at hp
  unfold evalOp at hy ⊢
  cases ho:o.op with
  | move x =>
    simp only[ho,Op.operands] at hop hy ⊢
    rw[hop x (by simp)]; cases hy; exact ⟨rfl,rfl⟩
  | assign x =>
    simp only[ho,Op.operands] at hop hy ⊢
    rw[hop x (by simp)]; cases hy; exact ⟨rfl,rfl⟩
  | pick c x y =>
    simp only[ho,Op.operands] at hop hy ⊢
    rw[hop c (by simp),hop x (by simp),hop y (by simp)]
    split at hy
    · cases hy; exact ⟨rfl,rfl⟩
    · split at hy<;>(cases hy; exact ⟨rfl,rfl⟩)
    · exact hy.elim
  | build t ps =>
    simp only[ho,Op.operands] at hop hy ⊢
    split at hy
    · rename_i i hi
      rw[parts_local (s:=s) (s':=s') fun p hp=>hop p.2 (by simp; exact ⟨p.1,by simpa using hp⟩)]
      split at hy
      · cases hy; exact ⟨rfl,rfl⟩
      · exact hy.elim
    · exact hy.elim
  | load t x =>
    simp only[ho,Op.operands] at hop hlk hy ⊢
    rw[hop x (by simp)]
    split at hy
    · rename_i hi ha
      exact zBe (fun n hn=>hlk x (by simp) n (zfv ha hn)) hy
    · exact hy.elim
  | binOp b t x y u =>
    simp only[ho,Op.operands] at hop hy ⊢
    rw[hop x (by simp),hop y (by simp)]
    exact zG2 hy
  | unOp u t x =>
    simp only[ho,Op.operands] at hop hy ⊢
    rw[hop x (by simp)]
    split at hy
    · cases hy; exact ⟨rfl,rfl⟩
    · cases hy; exact ⟨rfl,rfl⟩
    · exact hy.elim
  | convert u t x =>
    simp only[ho,Op.operands] at hop hlk hy ⊢
    rw[hop x (by simp)]
    split at hy
    · cases hy; exact ⟨rfl,rfl⟩
    · rename_i b hi h1 hint
      split at hy
      · rename_i xs hb hl
        rw[zuF (s':=s') (fun n hn=>hlk x (by simp) n (zfv (by rw[h1]; rfl) hn)) hl,hb]
        cases hy
        exact ⟨rfl,rfl⟩
      · exact hy.elim
    · exact hy.elim
  | nilCheck x =>
    simp only[ho,Op.operands] at hop hlk hy ⊢
    rw[hop x (by simp)]
    split at hy
    · rename_i ha
      split at hy
      · rename_i hl
        obtain ⟨e',he'⟩:=(hlk x (by simp) _ (zfv ha (by simp[A1.nms]))).some hl
        rw[he']; cases hy; exact ⟨rfl,rfl⟩
      · exact hy.elim
    · cases hy; exact ⟨rfl,rfl⟩
    · rename_i ha
      split at hy
      · rename_i hl
        obtain ⟨fr',he'⟩:=(hlk x (by simp) _ (zfv ha (by simp[A1.nms]))).arr hl
        rw[he']; cases hy; exact ⟨rfl,rfl⟩
      · exact hy.elim
    · rename_i ha
      split at hy
      · rename_i hl
        obtain ⟨fr',he'⟩:=(hlk x (by simp) _ (zfv ha (by simp[A1.nms]))).deep hl
        rw[he']; cases hy; exact ⟨rfl,rfl⟩
      · exact hy.elim
    · exact hy.elim
  | slice t x lo hi mx =>
    cases mx with
    | some m=>simp[ho] at hp
    | none =>
      simp only[ho,Op.operands] at hop hlk hy ⊢
      have hlo:lo.map (zbs s')=lo.map (zbs s):=by
        cases lo with
        | none=>rfl
        | some z=>simp only[Option.map_some]; rw[hop z (by simp)]
      have hhi:hi.map (zbs s')=hi.map (zbs s):=by
        cases hi with
        | none=>rfl
        | some z=>simp only[Option.map_some]; rw[hop z (by simp)]
      rw[hop x (by simp),hlo,hhi]
      split at hy
      · rename_i ha
        exact zvK (fun n hn=>hlk x (by simp) n (zfv ha hn)) hy
      · exact hy.elim
  | fieldAddr t x f =>
    simp only[ho,Op.operands] at hop hlk hy ⊢
    rw[hop x (by simp)]
    split at hy
    · rename_i hi ha
      split at hy
      · rename_i hst hf
        split at hy
        · rename_i hl
          obtain ⟨e',he'⟩:=(hlk x (by simp) _ (zfv ha (by simp[A1.nms]))).some hl
          rw[he']; cases hy; exact ⟨rfl,rfl⟩
        · exact hy.elim
      · cases hy; exact ⟨rfl,rfl⟩
      · rename_i hst hf
        split at hy
        · rename_i hl
          obtain ⟨fr',he'⟩:=(hlk x (by simp) _ (zfv ha (by simp[A1.nms]))).arr hl
          rw[he']; cases hy; exact ⟨rfl,rfl⟩
        · exact hy.elim
      · rename_i hst hf
        split at hy
        · rename_i hl
          obtain ⟨fr',he'⟩:=(hlk x (by simp) _ (zfv ha (by simp[A1.nms]))).deep hl
          rw[he']
          cases hy; exact ⟨rfl,rfl⟩
        · exact hy.elim
      · exact hy.elim
    · exact hy.elim
  | field t x f =>
    simp only[ho,Op.operands] at hop hy ⊢
    rw[hop x (by simp)]
    split at hy
    · split at hy
      · split at hy
        · cases hy; exact ⟨rfl,rfl⟩
        · exact hy.elim
      · exact hy.elim
    · exact hy.elim
  | indexAddr t x y =>
    simp only[ho,Op.operands] at hop hlk hy ⊢
    rw[hop x (by simp),hop y (by simp)]
    split at hy
    · rename_i ha hj
      exact zwN (fun n hn=>hlk x (by simp) n (zfv ha hn)) hy
    · exact hy.elim
  | index t x y =>
    simp only[ho,Op.operands] at hop hy ⊢
    rw[hop x (by simp),hop y (by simp)]
    split at hy
    · obtain ⟨r,h1,h2⟩:=hy; cases h2; exact ⟨rfl,r,h1,rfl⟩
    · exact hy.elim
  | extract x f =>
    simp only[ho,Op.operands] at hop hy ⊢
    rw[hop x (by simp)]
    split at hy
    · split at hy
      · cases hy; exact ⟨rfl,rfl⟩
      · exact hy.elim
    · exact hy.elim
  | buildSlice t len ps =>
    cases len with
    | succ n=>simp[ho] at hp
    | zero =>
      simp only[ho] at hy ⊢
      split at hy
      · cases hy; exact ⟨rfl,rfl⟩
      · exact hy.elim
  | call c =>
    obtain ⟨callee,args,ts⟩:=c
    cases callee with
    | invoke r m=>simp[ho] at hp
    | value f=>simp[ho] at hp
    | builtin b =>
      cases b<;>try (simp[ho] at hp; done)
      case len =>
        simp only[ho,Op.operands,Call.operands] at hop hlk hy ⊢
        split at hy
        · rename_i x t hx ht
          have hm:x∈args.toList:=by rw[hx]; simp
          rw[hop x (by simpa using hm)]
          split at hy
          · rename_i hi ha
            exact ztn (fun n hn=>hlk x (by simpa using hm) n (zfv ha hn)) hy
          · exact hy.elim
        · exact hy.elim
  | _=>simp[ho] at hp
end
end Go.Di
open Go.RowKit (Below)
namespace Go.Di
structure Keep (T K:Nat→Prop) (s s':St):Prop where
 lk:∀ n,¬ T n→(∀ l,look n s.ents=some (.box l)→∀ m∈zxW l,¬ K m)→zcV n s s'
 env:∀ (t:Nat) a,s.env[t]? = some a→(∀ m∈a.nms,¬ K m)→s'.env[t]? = some a
 len:s'.env.length=s.env.length
theorem zN5 (e:Ent):frz (frz e)=frz e:=by cases e<;>rfl
theorem Keep.refl (T K:Nat→Prop) (s:St):Keep T K s s:=⟨fun _ _ _=>rfl,fun _ _ h _=>h,rfl⟩
theorem Keep.trans {T K:Nat→Prop} {s s1 s2:St} (h:Keep T K s s1) (k:Keep T K s1 s2):Keep T K s s2 where
  lk n hn hb:=by
    have h1:=h.lk n hn hb
    have h2:=k.lk n hn fun l hl=>by
      cases h':look n s.ents with
      | none=>unfold zcV at h1; rw[h',hl] at h1; cases h1
      | some e =>
        cases e with
        | box l'=>rw[h1.box h'] at hl; cases hl; exact hb l h'
        | arr fr t xs=>obtain ⟨fr',h2⟩:=h1.arr h'; rw[h2] at hl; cases hl
        | deep fr t xs=>obtain ⟨fr',h2⟩:=h1.deep h'; rw[h2] at hl; cases hl
    unfold zcV at *
    rw[h2,h1]
  env t a ha hm:=k.env t a (h.env t a ha hm) hm
  len:=k.len.trans h.len
theorem zl3 {m:Nat}:∀ {l:List A1},m ∉ zxW l→zeQ m l=l
  | [],_=>rfl
  | a :: r,h=>by
    simp only[zxW,List.mem_append,not_or] at h
    unfold zeQ
    rw[zl3 h.2]
    congr 1
    cases a with
    | dc n i o ys =>
      simp only[A1.nms,List.mem_cons,List.not_mem_nil,or_false,not_or] at h
      simp only[A1.kill]
      split
      · rename_i hb; exact absurd (Nat.eq_of_beq_eq_true hb) h.1.1
      · split
        · rename_i hb; exact absurd (Nat.eq_of_beq_eq_true hb) h.1.2
        · rfl
    | _=>(simp only[A1.kill]<;>simp only[A1.nms,List.mem_singleton] at h<;>(split<;>first | rfl | (rename_i hb; simp at hb; exact absurd hb h.1)))
theorem zya {m:Nat}:∀ {l:List (Bool × List A1)},m ∉ zMR l→zFA m l=l
  | [],_=>rfl
  | (b,a) :: r,h=>by
    simp only[zMR,List.mem_append,not_or] at h
    unfold zFA
    rw[zya h.2,zl3 h.1]
theorem zNY {m:Nat} {a:AV} (h:m ∉ a.nms):a.kill m=a:=by
 cases a with
 | v b l=>simp only[AV.kill]; rw[zl3 h]
 | tup ps=>simp only[AV.kill]; rw[zya h]
theorem Keep.free {T K:Nat→Prop} {s:St} {m:Nat} (hm:T m) (hM:K m):Keep T K s (s.free m) where
  lk n hn hb:=by
    have hne:n≠m:=fun e=>hn (e▸hm)
    unfold zcV
    rw[zb0,if_neg hne]
    cases h:look n s.ents with
    | none=>rfl
    | some e =>
      cases e with
      | box l=>simp only[Option.map_some,Ent.kill]; rw[zl3 fun h'=>hb l h m h' hM]
      | arr fr t xs=>rfl
      | deep fr t xs=>rfl
  env t a ha hms:=by
    have hk:a.kill m=a:=zNY fun h'=>hms m h' hM
    simp only[St.free]
    rw[zgp,ha,Option.map_some,hk]
  len:=zgm m s.env
theorem Keep.znN {T K:Nat→Prop}:∀ {l:List (Nat × Ent)} {s:St},(∀ m∈names l,T m∧K m)→Keep T K s (St.znN l s)
 | [],s,_=>Keep.refl T K s
 | (n,e) :: r,s,h=>(Keep.free (h n (by simp[names])).1 (h n (by simp[names])).2).trans (Keep.znN fun m hm=>h m (by simp only[names,List.map_cons,List.mem_cons] at hm ⊢; exact .inr hm))
theorem Keep.zbz {T K:Nat→Prop}:∀ {l:List Nat} {s:St},(∀ m∈l,T m∧K m)→Keep T K s (St.zbz l s)
 | [],s,_=>Keep.refl T K s
 | n :: _r,_s,h=>(Keep.free (h n (List.mem_cons_self ..)).1 (h n (List.mem_cons_self ..)).2).trans (Keep.zbz fun m hm=>h m (List.mem_cons_of_mem _ hm))
theorem Keep.put {T K:Nat→Prop} {s:St} {n:Nat} {e:Ent} (hn:T n):Keep T K s ⟨s.env,put n e s.ents⟩ where
 lk m hm _:=by
  have hne:m≠n:=fun e=>hm (e▸hn)
  unfold zcV
  rw[zcg,if_neg hne]
 env t a ha _:=ha
 len:=rfl
theorem Keep.zi8 {T K:Nat→Prop} {s:St} {l:List (Nat × Ent)} (h:∀ m∈names l,T m):Keep T K s ⟨s.env,zi8 l s.ents⟩ where
 lk m hm _:=by
  unfold zcV
  rw[zbJ m l s.ents fun h'=>hm (h m h')]
 env t a ha _:=ha
 len:=rfl
theorem Keep.zvO {T K:Nat→Prop} {s:St} {l:List (Nat × Ent)} (h:∀ m∈names l,T m∧K m):Keep T K s (St.zvO l s) :=
 (Keep.znN h).trans (Keep.zi8 (s:=St.znN l s) fun m hm=>(h m hm).1)
theorem Keep.push {T K:Nat→Prop} {s:St} {n:Nat} {e:Ent} (h:T n) (hK:K n):Keep T K s (St.push n e s) :=
 Keep.zvO fun m hm=>by simp[names] at hm; exact hm▸⟨h,hK⟩
theorem Keep.freeze1 {T K:Nat→Prop} {s:St} (n:Nat):Keep T K s ⟨s.env,Go.Di.freeze1 n s.ents⟩ where
 lk m _ _:=by
  unfold zcV
  rw[look_freeze1]
  split
  ·cases look m s.ents with
   | none=>rfl
   | some e=>simp only[Option.map_some,zN5]
  ·rfl
 env t a ha _:=ha
 len:=rfl
theorem Keep.zaB {T K:Nat→Prop}:∀ {l:List A1} {s:St},Keep T K s ⟨s.env,Go.Di.zaB l s.ents⟩
  | [],s=>Keep.refl T K s
  | a :: r,s=>by
    have h1:Keep T K s ⟨s.env,a.freeze s.ents⟩:=by
      cases a<;>first | exact Keep.refl T K s | exact Keep.freeze1 _
    exact h1.trans (Keep.zaB (s:=⟨s.env,a.freeze s.ents⟩))
theorem zHH {m:Nat} {cs:List Cell} {a:A1} (h:m ∉ a.nms):a.shut m cs=a:=by
  have hk:a.kill m=a:=by
    have:=zl3 (m:=m) (l:=[a]) (by simpa [zxW] using h)
    simpa [zeQ] using this
  cases a with
  | lp n off =>
    simp only[A1.shut]
    split
    · rename_i hb; exact absurd (by simp[A1.nms,Nat.eq_of_beq_eq_true hb]) h
    · rfl
  | _=>exact hk
theorem znW {m:Nat} {cs:List Cell}:∀ {l:List A1},m ∉ zxW l→zrm m cs l=l
  | [],_=>rfl
  | a :: r,h=>by
    simp only[zxW,List.mem_append,not_or] at h
    unfold zrm
    rw[znW h.2,zHH h.1]
theorem zxH {m:Nat} {cs:List Cell}:∀ {l:List (Bool × List A1)},m ∉ zMR l→zHF m cs l=l
  | [],_=>rfl
  | (b,a) :: r,h=>by
    simp only[zMR,List.mem_append,not_or] at h
    unfold zHF
    rw[zxH h.2,znW h.1]
theorem zMJ {m:Nat} {cs:List Cell} {a:AV} (h:m ∉ a.nms):a.shut m cs=a:=by
 cases a with
 | v b l=>simp only[AV.shut]; rw[znW h]
 | tup ps=>simp only[AV.shut]; rw[zxH h]
theorem Keep.shut {T K:Nat→Prop} {s:St} {m:Nat} {cs:List Cell} (hm:T m) (hM:K m):Keep T K s (s.shut m cs) where
  lk n hn hb:=by
    have hne:n≠m:=fun e=>hn (e▸hm)
    unfold zcV
    rw[zgl,if_neg hne]
    cases h:look n s.ents with
    | none=>rfl
    | some e =>
      cases e with
      | box l=>simp only[Option.map_some,Ent.shut]; rw[znW fun h'=>hb l h m h' hM]
      | arr fr t xs=>rfl
      | deep fr t xs=>rfl
  env t a ha hms:=by
    have hk:a.shut m cs=a:=zMJ fun h'=>hms m h' hM
    simp only[St.shut]
    rw[zo3,ha,Option.map_some,hk]
  len:=zjl m cs s.env
theorem Keep.seal1 {T K:Nat→Prop} (hT:∀ n,T n∧K n) {s s1:St} {b:AV} {cs:List Cell} (h:seal1 s b=some (cs,s1)):Keep T K s s1:=by
  unfold Go.Di.seal1 at h
  split at h
  · cases h; exact Keep.refl _ _ _
  · split at h
    · split at h
      · cases h
        exact Keep.zaB.trans (Keep.shut (hT _).1 (hT _).2)
      · cases h
    · cases h
  · cases h
theorem Keep.sealCaps {T K:Nat→Prop} (hT:∀ n,T n∧K n):∀ {xs:List Operand} {s s1:St} {css:List (List Cell)},sealCaps s xs=some (css,s1)→Keep T K s s1
  | [],s,s1,css,h=>by cases h; exact Keep.refl _ _ _
  | x :: r,s,s1,css,h=>by
    unfold Go.Di.sealCaps at h
    split at h
    · rename_i h1
      split at h
      · rename_i h2
        cases h
        exact (Keep.seal1 hT h1).trans (Keep.sealCaps hT h2)
      · cases h
    · cases h
section
variable {s s' s1:St} {av:AV} {lay:List (TypeId × TI)} {cons:List (FuncId × Con)} {o:Oper}
theorem zhW (d:Nat):Nat.beq (nm d / 64) d=true:=by
 have:nm d / 64=d:=by unfold nm; omega
 rw[this]; simp
theorem call_keeps {T K:Nat→Prop} {c:Con} {avs:List AV} (hy:(zqR s (o.dst.getD 0) c avs).Yields (av,s')) (hdst:∀ q,q < 63→T (nm (o.dst.getD 0)+q)∧K (nm (o.dst.getD 0)+q))
    (hin:∀ q,q∈namesT c.sig.ins→T (zaU (c.sig.tin.src ⟨avs,zaZ s c.sig avs⟩) q)) (hgo:∀ m,m∈zlh (c.sig.tin.src ⟨avs,zaZ s c.sig avs⟩) (namesT c.sig.outs) c.sig.ins→K m) (hst:∀ m,m∈zjb (c.sig.tin.src ⟨avs,zaZ s c.sig avs⟩) c.sig.ins→T m∧K m):Keep T K s s':=by
  unfold zqR at hy
  split at hy
  · rename_i x hx hb
    obtain ⟨hb1,_⟩:=Bool.and_eq_true_iff.1 hb
    obtain ⟨_,hfine⟩:=Bool.and_eq_true_iff.1 hb1
    obtain ⟨y,h1,h2⟩:=hy
    cases h2
    obtain ⟨nd,hf2⟩:=zOs hfine
    obtain ⟨hpinIn,_⟩:=zOs hf2
    generalize c.sig.tin.src ⟨avs,zaZ s c.sig avs⟩=src at *
    have hname:∀ q t,(q,t)∈c.sig.outs→T (zcS src (o.dst.getD 0) q):=fun q t hq=>by
      rcases pinIn_ok hpinIn hq with ⟨h63,hh⟩ | ⟨h63,hlt,_⟩
      · have hq':q∈namesT c.sig.ins:=by
          rcases hh with ⟨l1,l2,hh,_⟩ | ⟨t',hh,_⟩ | ⟨t',hh,_⟩<;>exact zb1 (zjw hh)
        have:zcS src (o.dst.getD 0) q=zaU src q:=by
          unfold zcS; rw[h63]
        rw[this]; exact hin q hq'
      · have:zcS src (o.dst.getD 0) q=nm (o.dst.getD 0)+q:=by
          unfold zcS
          have hb:Nat.beq (q % 64) 63=false:=by rw[Bool.eq_false_iff]; intro hb; exact h63 (Nat.eq_of_beq_eq_true hb)
          rw[hb]
        rw[this]; exact (hdst q hlt).1
    have h1:Keep T K s ⟨s.env,zaZ s c.sig avs⟩:=by
      unfold zaZ
      split
      · exact Keep.zaB
      · exact Keep.refl _ _ _
    refine h1.trans ?_
    refine (Keep.zbz fun m hm=>?_).trans (Keep.zi8 fun m hm=>?_)
    · rcases List.mem_append.1 hm with hm | hm
      · rcases List.mem_append.1 hm with hm | hm
        · have hK:=hgo m hm
          obtain ⟨p,t,hp,rfl,_⟩:=zhY hm
          exact ⟨hin p (zb1 hp),hK⟩
        · obtain ⟨q,t,hq,h63,rfl⟩:=zfZ hm
          refine ⟨hname q t hq,?_⟩
          rcases pinIn_ok hpinIn hq with ⟨h63',_⟩ | ⟨_,hlt,_⟩
          · exact absurd h63' h63
          · have:zcS src (o.dst.getD 0) q=nm (o.dst.getD 0)+q:=by
              unfold zcS
              have hb:Nat.beq (q % 64) 63=false:=by rw[Bool.eq_false_iff]; intro hb; exact h63 (Nat.eq_of_beq_eq_true hb)
              rw[hb]
            rw[this]; exact (hdst q hlt).2
      · exact hst m hm
    · rw[zmx] at hm
      obtain ⟨q,hq,rfl⟩:=List.mem_map.1 hm
      rw[show (c.sig.zmq.enc (c.out y)).ents=zll c.sig.outs (Tys.snd (ksS (c.sig.res.map some)) (ksE c.sig.outs) (c.out y)) from rfl,zgV] at hq
      obtain ⟨t,ht⟩:=zgW hq
      exact hname q t ht
  · exact hy.elim
theorem zqj {T K:Nat→Prop} {n j off:Nat} {c:List A1} (hy:(zhT s n j off c).Yields (av,s')) (hT:T n):Keep T K s s':=by
 unfold zhT at hy
 split at hy
 ·obtain ⟨e,_,h2⟩:=hy
  cases h2
  exact Keep.zaB.trans (Keep.put (s:=⟨s.env,zaB c s.ents⟩) hT)
 ·exact hy.elim
theorem zlo {es:List (Nat × Ent)}:∀ {l m:List A1} {K:List Nat},zem es (l++m)=some K→∃ k1 k2,zem es l=some k1∧zem es m=some k2∧K=k1++k2
  | [],m,K,h=>⟨[],K,rfl,h,rfl⟩
  | a :: l,m,K,h=>by
    obtain ⟨k,l',e1,e2,rfl⟩:=zgt (a:=a) (r:=l++m) h
    obtain ⟨k1,k2,h1,h2,rfl⟩:=zlo e2
    refine ⟨k++k1,k2,?_,h2,by simp⟩
    unfold zem
    rw[e1,h1]
theorem taken_mem {t:ST}:∀ {ps:List (Nat × Operand)} {k:Nat} {es:List t.El} {cs:List A1} {K:List Nat},elemsOf s t k ps=some (es,cs)→zem s.ents cs=some K→∀ m∈K,m∈takenNms s (ps.map (·.2))
  | [],k,es,cs,K,h,ha,m,hm=>by simp only[elemsOf] at h; cases h; cases ha; cases hm
  | (j, x) :: r,k,es,cs,K,h,ha,m,hm=>by
    simp only[elemsOf] at h
    split at h
    · split at h
      · rename_i c hc
        split at h
        · split at h
          · rename_i p hp
            cases h
            obtain ⟨k1,k2,h1,h2,rfl⟩:=zlo ha
            simp only[List.map_cons,takenNms,hc,h1]
            rcases List.mem_append.1 hm with hm | hm
            · exact List.mem_append_left _ hm
            · exact List.mem_append_right _ (taken_mem (es:=p.1) (cs:=p.2) hp h2 m hm)
          · cases h
        · cases h
      · cases h
    · cases h
theorem zBy {l:List Operand} {n i off:Nat} {ys:List Int} {r:List AV} (h:opsL s l = .v false [.dc n i off ys] :: r):n∈zdI s l∧dcn n∈zdI s l:=by
  cases l with
  | nil=>cases h
  | cons x q =>
    simp only[opsL,List.cons.injEq] at h
    have:addrOf (zbs s x)=some (.dc n i off ys):=by rw[h.1]; rfl
    simp only[zdI,this]
    exact ⟨by simp,by simp⟩
theorem eff_keeps (hy : (evalOp lay cons o s).Yields (av,s')):Keep (fun n=>touch cons s o n=true) (fun n=>zfV cons s o n=true) s s':=by
  have hy0:=hy
  have hKg:(∀ f args ts,o.op ≠ .call ⟨.value (.func f),args,ts⟩)→(∀ t x y,o.op = .store t x y→∀ m i off,addrOf (zbs s x)≠some (.oe m i off))→∀ n,touch cons s o n=true→zfV cons s o n=true:=by
    intro h h2 n hn
    unfold zfV
    split
    · rename_i heq; exact absurd heq (h _ _ _)
    · rename_i heq
      split
      · rename_i ha; exact absurd ha (h2 _ _ _ heq _ _ _)
      · exact hn
    · exact hn
  unfold evalOp at hy
  cases ho:o.op with
  | alloc t =>
    simp only[ho] at hy
    split at hy
    · cases hy; exact Keep.push (by simp only[touch,ho]; exact zhW _) (by simp only[zfV,touch,ho]; exact zhW _)
    · exact hy.elim
  | box t x =>
    simp only[ho] at hy
    split at hy
    · split at hy
      · cases hy; exact Keep.push (by simp only[touch,ho]; exact zhW _) (by simp only[zfV,touch,ho]; exact zhW _)
      · exact hy.elim
    · exact hy.elim
  | makeSlice t x y =>
    simp only[ho] at hy
    split at hy
    · split at hy
      · split at hy
        · obtain ⟨r,h1,h2⟩:=hy; cases h2; exact Keep.push (by simp only[touch,ho]; exact zhW _) (by simp only[zfV,touch,ho]; exact zhW _)
        · obtain ⟨r,h1,h2⟩:=hy; cases h2; exact Keep.push (by simp only[touch,ho]; exact zhW _) (by simp only[zfV,touch,ho]; exact zhW _)
      · exact hy.elim
    · exact hy.elim
  | buildSlice t len ps =>
    have hK:=hKg (by rw[ho]; intro _ _ _ h; cases h) (by rw[ho]; intro _ _ _ h; cases h)
    simp only[ho] at hy
    split at hy
    · split at hy
      · cases hy; exact Keep.refl _ _ _
      · split at hy
        · rename_i es cs hes
          have hd:touch cons s o (nm (o.dst.getD 0))=true:=by simp only[touch,ho]; rw[zhW]; rfl
          split at hy
          · split at hy
            · split at hy
              · rename_i Kn habs
                split at hy
                · cases hy
                  refine (Keep.zbz fun m hm=>(fun h=>⟨h,hK _ h⟩) (?_:touch cons s o m=true)).trans (Keep.push (s:=St.zbz Kn s) hd (hK _ hd))
                  simp only[touch,ho]
                  rw[zbo.2 (taken_mem hes habs m hm)]; simp
                · exact hy.elim
              · exact hy.elim
            · cases hy
              exact Keep.zaB.trans (Keep.push (s:=⟨s.env,zaB cs s.ents⟩) hd (hK _ hd))
          · exact hy.elim
        · exact hy.elim
    · exact hy.elim
  | store t x y =>
    simp only[ho] at hy
    split at hy
    · rename_i i a c hi ha hc
      split at hy
      · unfold storeOp at hy
        split at hy
        · rename_i n off
          split at hy
          · split at hy
            · cases hy; exact Keep.put (by simp[touch,ho,ha])
            · exact hy.elim
          · exact hy.elim
        · rename_i n j
          split at hy
          · split at hy
            · split at hy
              · cases hy
                exact Keep.zaB.trans (Keep.put (s:=⟨s.env,zaB c s.ents⟩) (by simp[touch,ho,ha]))
              · exact hy.elim
            · exact zqj hy (by simp[touch,ho,ha])
          · exact hy.elim
        · exact zqj hy (by simp[touch,ho,ha])
        · rename_i n j off
          have hK:=hKg (by rw[ho]; intro _ _ _ h; cases h) (by rw[ho]; intro _ _ _ h; cases h; rw[ha]; intro _ _ _ h; cases h)
          unfold deepStore at hy
          split at hy
          · rename_i u xs Kn hl habs
            split at hy
            · obtain ⟨e',h1,h2⟩:=hy
              cases h2
              have hn:touch cons s o n=true:=by simp[touch,ho,ha]
              have hn2:touch cons s o (dcn n)=true:=by simp[touch,ho,ha]
              refine ((Keep.zbz fun m hm=>(fun h=>⟨h,hK _ h⟩) (?_:touch cons s o m=true)).trans (Keep.free (s:=St.zbz Kn s) hn2 (hK _ hn2))).trans (Keep.put (s:=(St.zbz Kn s).free (dcn n)) hn)
              simp only[touch,ho,ha,takenNms,hc,habs]
              rw[zbo.2 (List.mem_append_left _ hm)]; simp
            · exact hy.elim
          · exact hy.elim
        · exact hy.elim
      · exact hy.elim
    · exact hy.elim
  | call c =>
    obtain ⟨callee,args,ts⟩:=c
    cases callee with
    | invoke r m=>simp only[ho] at hy; exact hy.elim
    | value f =>
      cases f with
      | func f =>
        simp only[ho] at hy
        split at hy
        · rename_i c hc
          split at hy
          · rename_i n i off ys r hin hinner
            have hops:opsL s args.toList = .v false [.dc n i off ys] :: r:=by
              unfold zrC at hin
              split at hin
              · rename_i h; cases hin; exact h
              · cases hin
            obtain ⟨hn,hn2⟩:n∈zdI s args.toList∧dcn n∈zdI s args.toList:=zBy hops
            have ht:∀ m,m∈zdI s args.toList→touch cons s o m=true:=fun m hm=>by
              simp only[touch,ho,hc]
              rw[zbo.2 hm]; simp
            have ht2:∀ m,m∈zdI s args.toList→zfV cons s o m=true:=fun m hm=>by
              simp only[zfV,ho,hc]
              rw[zbo.2 hm]; simp
            unfold innerCall at hy
            split at hy
            · obtain ⟨p,h1,h2⟩:=hy
              cases h2
              exact (Keep.free (ht _ hn2) (ht2 _ hn2)).trans (Keep.put (s:=s.free (dcn n)) (ht _ hn))
            · exact hy.elim
          exact call_keeps hy (fun q hq=>by
            simp only[touch,zfV,ho,hc]
            have:(nm (o.dst.getD 0)+q) / 64=o.dst.getD 0:=by unfold nm; omega
            rw[this]; simp) (fun q hq=>by
            simp only[touch,ho,hc]
            rw[zbo.2 (List.mem_append_left _ (List.mem_map.2 ⟨q,hq,rfl⟩))]; simp) (fun m hm=>by
            simp only[zfV,ho,hc]
            rw[zbo.2 (List.mem_append_left _ hm)]; simp) (fun m hm=>by
            simp only[touch,zfV,ho,hc]
            rw[zbo.2 (List.mem_append_right _ hm),zbo.2 (List.mem_append_right _ hm)]; simp)
        · exact hy.elim
      | tmp t =>
        simp only[ho] at hy
        split at hy
        · rename_i f css hfn
          split at hy
          · rename_i c hc
            have hK:=hKg (by rw[ho]; intro _ _ _ h; cases h) (by rw[ho]; intro _ _ _ h; cases h)
            have hin:∀ q,q∈namesT c.sig.ins→touch cons s o (zaU (c.sig.tin.src ⟨opsL s args.toList++zla css,zaZ s c.sig (opsL s args.toList++zla css)⟩) q)=true:=fun q hq=>by
              simp only[touch,ho,hfn,hc]
              rw[zbo.2 (List.mem_append_left _ (List.mem_map.2 ⟨q,hq,rfl⟩))]; simp
            have hst:∀ m,m∈zjb (c.sig.tin.src ⟨opsL s args.toList++zla css,zaZ s c.sig (opsL s args.toList++zla css)⟩) c.sig.ins→touch cons s o m=true:=fun m hm=>by
              simp only[touch,ho,hfn,hc]
              rw[zbo.2 (List.mem_append_right _ hm)]; simp
            have hdst:∀ q,q < 63→touch cons s o (nm (o.dst.getD 0)+q)=true:=fun q hq=>by
              simp only[touch,ho,hfn,hc]
              have:(nm (o.dst.getD 0)+q) / 64=o.dst.getD 0:=by unfold nm; omega
              rw[this]; simp
            exact call_keeps hy (fun q hq=>⟨hdst q hq,hK _ (hdst q hq)⟩) hin (fun m hm=>by
              obtain ⟨p,t,hp,rfl,_⟩:=zhY hm
              exact hK _ (hin p (zb1 hp))) (fun m hm=>⟨hst m hm,hK _ (hst m hm)⟩)
          · exact hy.elim
        · exact hy.elim
      | const v=>simp only[ho] at hy; exact hy.elim
      | global v=>simp only[ho] at hy; exact hy.elim
    | builtin b =>
      have hK:=hKg (by rw[ho]; intro _ _ _ h; cases h) (by rw[ho]; intro _ _ _ h; cases h)
      obtain ⟨l⟩:=args
      cases b<;>try (simp only[ho] at hy; exact hy.elim)
      case max =>
        simp only[ho] at hy
        split at hy
        · split at hy
          · cases hy; exact Keep.refl _ _ _
          · exact hy.elim
        · exact hy.elim
      case len =>
        simp only[ho] at hy
        split at hy
        · split at hy
          · have:s'=s:=by
              have:=ztn (s':=s) (fun _ _=>rfl) hy
              exact this.1
            subst this; exact Keep.refl _ _ _
          · exact hy.elim
        · exact hy.elim
      case append =>
        have hbody : ∀ x y (t:TypeId),l=[x,y]→∀ a b e,addrOf (zbs s x)=some a→(appendOp s (o.dst.getD 0) e a b).Yields (av,s')→Keep (fun n=>touch cons s o n=true) (fun n=>zfV cons s o n=true) s s':=by
          intro x y t hl a b e ha hy
          have hd:touch cons s o (nm (o.dst.getD 0))=true:=by
            simp only[touch,ho,hl]
            split
            · simp[zhW]
            · rw[zhW]; rfl
          unfold appendOp at hy
          split at hy
          · split at hy
            · obtain ⟨r,h1,h2⟩:=hy; cases h2
              exact Keep.push hd (hK _ hd)
            · rename_i n
              split at hy
              · split at hy
                · obtain ⟨r,h1,h2⟩:=hy; cases h2
                  have hn:touch cons s o n=true:=by
                    simp only[touch,ho,hl,ha]; simp
                  exact (Keep.free hn (hK _ hn)).trans (Keep.push (s:=s.free n) hd (hK _ hd))
                · exact hy.elim
              · exact hy.elim
            · exact hy.elim
          · exact hy.elim
        obtain ⟨m⟩:=ts
        match l,m with
        | [x, y], [t, u] =>
          simp only[ho] at hy
          split at hy
          · rename_i ha hb
            split at hy
            · rename_i m
              have hd:touch cons s o (nm (o.dst.getD 0))=true:=by
                simp only[touch,ho]
                split
                · simp[zhW]
                · rw[zhW]; rfl
              unfold appendD at hy
              split at hy
              · split at hy
                · split at hy
                  · obtain ⟨r,h1,h2⟩:=hy; cases h2
                    have hm:touch cons s o m=true:=by
                      simp only[touch,ho,ha]
                      rw[zbo.2 (show m∈zdI s [x,y] by simp[zdI,ha,hb])]; simp
                    exact (Keep.free hm (hK _ hm)).trans (Keep.push (s:=s.free m) hd (hK _ hd))
                  · rename_i n
                    split at hy
                    · split at hy
                      · obtain ⟨r,h1,h2⟩:=hy; cases h2
                        have hm:touch cons s o m=true:=by
                          simp only[touch,ho,ha]
                          rw[zbo.2 (show m∈zdI s [x,y] by simp[zdI,ha,hb])]; simp
                        have hn:touch cons s o n=true:=by
                          simp only[touch,ho,ha]
                          rw[zbo.2 (show n∈zdI s [x,y] by simp[zdI,ha,hb])]; simp
                        exact ((Keep.free hn (hK _ hn)).trans (Keep.free (s:=s.free n) hm (hK _ hm))).trans (Keep.push (s:=(s.free n).free m) hd (hK _ hd))
                      · exact hy.elim
                    · exact hy.elim
                  · exact hy.elim
                · exact hy.elim
              · exact hy.elim
            · exact hbody x y t rfl _ _ _ ha hy
          · exact hy.elim
        | [],_=>simp only[ho] at hy; exact hy.elim
        | [_],_=>simp only[ho] at hy; exact hy.elim
        | [_,_],[]=>simp only[ho] at hy; exact hy.elim
        | [_,_],[_]=>simp only[ho] at hy; exact hy.elim
        | [_,_],_ :: _ :: _ :: _=>simp only[ho] at hy; exact hy.elim
        | _ :: _ :: _ :: _,_=>simp only[ho] at hy; exact hy.elim
  | makeFunc fn first caps =>
    cases fn with
    | func f =>
      simp only[ho] at hy
      split at hy
      · rename_i hc
        cases hy
        exact Keep.sealCaps (fun n=>by simp[touch,zfV,ho]) hc
      · exact hy.elim
    | _=>simp only[ho] at hy; exact hy.elim
  | move x=>simp only[ho] at hy; cases hy; exact Keep.refl _ _ _
  | assign x=>simp only[ho] at hy; cases hy; exact Keep.refl _ _ _
  | _ =>
    cases hp:zhS o with
    | true =>
      have:=(pure_local (s':=s) (lay:=lay) (cons:=cons) (o:=o) hp (fun _ _=>rfl) (fun _ _ _ _=>rfl) hy0).1
      subst this; exact Keep.refl _ _ _
    | false =>
      first
        | (simp[zhS,ho] at hp; done)
        | (simp only[ho] at hy; exact hy.elim)
        | (simp only[ho] at hy; split at hy<;>first | exact hy.elim | (simp_all [zhS]; done))
end
end Go.Di
open Go.RowKit (Below)
namespace Go.Di
/-! ### The order -/
def zpv (o:Oper) (j:Nat):Bool:=o.after.any fun e=>Region.binds .any e && Nat.beq e.on j
def zG8 (ops:Array Oper) (d:Nat) (o:Oper):Bool:=!zmn d (o.looksAt ops) && (match o.dst with | some u=>!Nat.beq u d | none=>true)
def zhD (ops:Array Oper) (i:Nat) (o:Oper):Bool :=
  match o.dst with
  | none=>true
  | some d=>!zmn d (o.looksAt ops) && (List.range ops.size).all fun j=>Nat.beq j i || match ops[j]? with
    | some oj=>(match oj.dst with | some u=>!Nat.beq u d | none=>true) && (!zmn d (oj.looksAt ops) || zpv oj i)
    | none=>true
def ancOk (ops:Array Oper) (o:Oper):List Nat→List Nat→Bool
  | [],_=>true
  | a :: A,known=>(zpv o a || known.any fun m=>match ops[m]? with
      | some om=>zpv om a
      | none=>false) && ancOk ops o A (a :: known)
def zDH (o:Oper) (pre:List Nat):Bool:=o.after.all fun e=>!Region.binds .any e || zmn e.on pre
def flo (o:Oper):Bool :=
 match o.op,o.guard,o.dst with
 | .alloc _,none,some _=>true
 | _,_,_=>false
def planOk (ops:Array Oper):List Nat→List (Nat × List Nat)→Bool
  | _,[]=>true
  | pre, (i, A) :: rest=>match ops[i]? with
    | none=>false
    | some o => zDH o pre && (!zmn i pre) && (match early o with
        | true=>zhD ops i o
        | false=>(rest.all fun p=>match ops[p.1]? with
            | some o'=>flo o' || o'.after.any fun e=>Region.binds .any e && (Nat.beq e.on i || rest.any fun q=>Nat.beq e.on q.1 && (match ops[q.1]? with | some oq=>!flo oq | none=>false))
            | none=>false) && (!flo o || zhD ops i o) && ancOk ops o A [] && pre.all fun q=>zmn q A || match ops[q]? with
              | some oq=>!early oq || (match o.dst with | some d=>zG8 ops d oq | none=>true)
              | none=>true) && planOk ops (i :: pre) rest
def zn5 (ops:Array Oper) (plan:List (Nat × List Nat)):Bool :=
 planOk ops [] plan && (Nat.ble plan.length ops.size && (List.range ops.size).all fun j=>plan.any fun p=>Nat.beq j p.1)
/-! ### One operation on abstract states -/
def wantedA (ops:List Oper) (o:Oper) (s:St):Option Bool :=
  match o.guard with
  | none=>some true
  | some (j,p)=>match ops[j]? with
    | some { dst:=some t,.. }=>match s.get t with
      | .v false [.d (.bool c)]=>some (c==p)
      | .tup []=>some false
      | _=>none
    | _=>none
def znV (d:Option Nat) (a:AV) (s:St):St :=
 match d with
 | some t=>s.set t a
 | none=>s
def Stp (E:Env) (ops:List Oper) (o:Oper) (s s':St):Prop :=
 (wantedA ops o s=some true∧zHs o=true∧∃ av s1,(evalOp E.lay E.cons o s).Yields (av,s1)∧s'=znV o.dst av s1) ∨
 (wantedA ops o s=some false∧s'=znV o.dst (.tup []) s)
theorem zDq {s:St} {t:Nat} {a:AV} (h:s.env[t]? = some a):s.set t a=s:=by
  cases s with
  | mk env ents =>
    simp only[St.set,St.mk.injEq,and_true]
    apply List.ext_getElem?
    intro j
    rw[List.getElem?_set]
    split
    · rename_i e; subst e
      split
      · exact h.symm
      · rename_i hn
        simp only at h
        rw[List.getElem?_eq_none (by omega)] at h; cases h
    · rfl
theorem get_some {s:St} {t:Nat} {a:AV} (h:s.get t=a) (hb:a≠AV.bot):s.env[t]? = some a:=by
 unfold St.get at h
 rw[List.getD_eq_getElem?_getD] at h
 cases h':s.env[t]? with
 | none=>rw[h'] at h; exact absurd h.symm hb
 | some b=>rw[h'] at h; simpa using h
theorem runOp_stp {β:Type} {E:Env} {ops:List Oper} {o:Oper} {s:St} {k:St→Option β} {r:β} (h:runOp E ops o s k=some r):∃ s',Stp E ops o s s'∧k s'=some r:=by
  have step:∀ {s:St},zAl E o s k=some r→wantedA ops o s=some true→∃ s',Stp E ops o s s'∧k s'=some r:=by
    intro s h hw
    unfold zAl at h
    split at h
    · rename_i hwf
      obtain ⟨⟨av,s1⟩,hy,hk⟩:=zqT h
      refine ⟨znV o.dst av s1,.inl ⟨hw,hwf,av,s1,hy,rfl⟩,?_⟩
      cases hd:o.dst with
      | none=>rw[hd] at hk; exact hk
      | some t=>rw[hd] at hk; exact hk
    · cases h
  unfold runOp at h
  split at h
  · rename_i hg
    exact step h (by simp[wantedA,hg])
  · rename_i j p hg
    split at h
    · rename_i o2 t _ _ _ _ _ hj
      have skip:wantedA ops o s=some false→zAy o s k=some r→∃ s',Stp E ops o s s'∧k s'=some r:=by
        intro hw hk
        unfold zAy at hk
        refine ⟨znV o.dst (.tup []) s,.inr ⟨hw,rfl⟩,?_⟩
        cases hd:o.dst with
        | none=>rw[hd] at hk; exact hk
        | some t=>rw[hd] at hk; exact hk
      split at h
      · rename_i hun
        exact skip (by simp only[wantedA,hg,hj,hun]) h
      · unfold zlJ at h
        split at h
        · rename_i c hc
          have hs:∀ b,c=b→s.set t (.one (.d (.bool b)))=s:=fun b hb=>zDq (by rw[← hb]; exact get_some hc (by intro e; cases e))
          have hw:wantedA ops o s=some (c==p):=by
            simp only[wantedA,hg,hj,hc]
          cases c<;>simp only[cond_true,cond_false] at h<;>rw[hs _ rfl] at h<;>cases p
          · exact step h hw
          · exact skip hw h
          · exact skip hw h
          · exact step h hw
        · cases h
    · cases h
/-! ### What an early operation's value hangs on -/
structure Stable (E:Env) (ops:List Oper) (o:Oper) (s:St) (N:List Nat):Prop where
 wf:zHs o=true
 known:∃ c,wantedA ops o s=some c
 yes:wantedA ops o s=some true→∃ av,(evalOp E.lay E.cons o s).Yields (av,s)∧znV o.dst av s=s∧∀ d,o.dst=some d→d < s.env.length→s.env[d]? = some av
 no:wantedA ops o s=some false→znV o.dst (.tup []) s=s
 opn:readsOf o=true→∀ x∈o.op.operands,∀ n∈(zbs s x).nms,2 * n∈N
 box:readsOf o=true→∀ x∈o.op.operands,∀ n∈(zbs s x).nms,∀ l,look n s.ents=some (.box l)→∀ m∈zxW l,2 * m+1∈N
 val:∀ x∈o.op.operands,∀ n∈(zbs s x).nms,2 * n+1∈N
 res:∀ d,o.dst=some d→∀ n∈(s.get d).nms,2 * n+1∈N
theorem zs9 {n:Nat}:∀ {l:List Nat},n∈l→2 * n∈evens l
  | m :: r,h=>by
    unfold evens
    rcases List.mem_cons.1 h with rfl | h
    · exact List.mem_cons_self ..
    · exact List.mem_cons_of_mem _ (zs9 h)
theorem znZ {n:Nat}:∀ {l:List Nat},n∈l→2 * n+1∈odds l
  | m :: r,h=>by
    unfold odds
    rcases List.mem_cons.1 h with rfl | h
    · exact List.mem_cons_self ..
    · exact List.mem_cons_of_mem _ (znZ h)
theorem zqp {s:St} {x:Operand} {n:Nat}:∀ {l:List Operand},x∈l→n∈(zbs s x).nms→n∈zxs s l
  | y :: r,hx,hn=>by
    unfold zxs
    rcases List.mem_cons.1 hx with rfl | hx
    · exact List.mem_append_left _ hn
    · exact List.mem_append_right _ (zqp hx hn)
theorem zqq {s:St} {n m:Nat} {l:List A1} (hl:look n s.ents=some (.box l)) (hm:m∈zxW l):∀ {r:List Nat},n∈r→m∈zps s r
  | k :: r,h=>by
    rcases List.mem_cons.1 h with rfl | h
    · simp only[zps,hl]; exact List.mem_append_left _ hm
    · have:=zqq hl hm h
      unfold zps
      split
      · exact List.mem_append_right _ this
      · exact this
theorem zoN {s:St} {x:Operand} {n:Nat}:∀ {l:List Operand},x∈l→(n∈(zbs s x).nms∨n∈zps s (zbs s x).nms)→n∈zHP s l
  | y :: r,h,hn=>by
    unfold zHP
    rcases List.mem_cons.1 h with rfl | h
    · rcases hn with hn | hn
      · exact List.mem_append_left _ hn
      · exact List.mem_append_right _ (List.mem_append_left _ hn)
    · exact List.mem_append_right _ (List.mem_append_right _ (zoN h hn))
theorem zDt {f:Nat→Bool}:∀ {l:List Nat},zRp f l=true→∀ n∈l,f n=false
  | m :: r,h,n,hn=>by
    unfold zRp at h
    split at h
    · cases h
    · rename_i hm
      rcases List.mem_cons.1 hn with rfl | hn
      · exact hm
      · exact zDt h n hn
theorem zlu {f:Nat→Bool}:∀ {l:List (Nat × List Nat)},zlP f l=true→∀ p∈l,∀ n∈p.2,f n=false
  | (i,l) :: r,h,p,hp=>by
    unfold zlP at h
    split at h
    · rename_i hm
      rcases List.mem_cons.1 hp with rfl | hp
      · exact zDt hm
      · exact zlu h p hp
    · cases h
theorem zoP {A:List Nat} {i:Nat} {N:List Nat} (hi:i ∉ A):∀ {l:List (Nat × List Nat)},(i,N)∈l→(i,N)∈ztT A l
  | (j,M) :: r,h=>by
    unfold ztT
    rcases List.mem_cons.1 h with e | h
    · cases e
      split
      · rename_i hm; exact absurd (zbo.1 hm) hi
      · exact List.mem_cons_self ..
    · split
      · exact zoP hi h
      · exact List.mem_cons_of_mem _ (zoP hi h)
end Go.Di
open Go.RowKit (Below)
namespace Go.Di
section
variable {P:Program} {C:Bs} {w w':World} {s s' s1:St} {X:Nat→Prop} {bt:Nat→Option Value} {a:Act} {o:Oper} {tm:Array Value} {β:Type}
 {K:Act→World→Prop} {Q:Exit→Act→World→Prop} {E:Env} {k:St→Option β} {r:β} {ops:Array Oper} {N:List Nat} {T:Nat→Prop}
theorem zoO {t:Nat} (h:Operand.tmp t∈o.op.operands):t∈o.looksAt ops:=by
 unfold Oper.looksAt
 exact List.mem_append_left _ (List.mem_filterMap.2 ⟨.tmp t,by simpa using h,rfl⟩)
theorem zg7 {j t:Nat} {p:Bool} {oj:Oper} (hg:o.guard=some (j,p)) (hj:ops[j]? = some oj) (hd:oj.dst=some t):t∈o.looksAt ops:=by
 unfold Oper.looksAt
 refine List.mem_append_right _ ?_
 simp[hg,hj,hd]
theorem zhV (h:∀ t∈o.looksAt ops,s'.get t=s.get t) {x:Operand} (hx:x∈o.op.operands):zbs s' x=zbs s x:=by
  cases x with
  | tmp t=>exact h t (zoO hx)
  | const v =>
    unfold zbs
    split
    · rename_i h; cases h
    all_goals first | rfl | (rename_i h; cases h; rfl)
  | _=>simp only[zbs]
theorem zlK (h:∀ t∈o.looksAt ops,s'.get t=s.get t):wantedA ops.toList o s'=wantedA ops.toList o s:=by
  unfold wantedA
  cases hg:o.guard with
  | none=>rfl
  | some q =>
    obtain ⟨j,p⟩:=q
    simp only
    cases hj:ops.toList[j]? with
    | none=>rfl
    | some oj =>
      obtain ⟨dst,op,type,pos,after,guard⟩:=oj
      cases dst with
      | none=>rfl
      | some t =>
        simp only
        rw[h t (zg7 hg (by rw[← hj,Array.getElem?_toList]) rfl)]
theorem wantedA_sound (g:Gam C s X bt a.tmps w) (hX:∀ t∈o.looksAt ops,¬ X t) {c:Bool} (hw:wantedA ops.toList o s=some c):Region.wanted o (yielded ops a.tmps)=c:=by
  unfold wantedA at hw
  cases hg:o.guard with
  | none=>rw[hg] at hw; cases hw; simp[Region.wanted,hg]
  | some q =>
    obtain ⟨j,p⟩:=q
    rw[hg] at hw
    simp only at hw
    split at hw
    · rename_i o2 t _ _ _ _ _ hj
      split at hw
      · rename_i b hb
        cases hw
        have hj':=hj
        rw[Array.getElem?_toList] at hj'
        have hx:=hX t (zg7 hg hj' rfl)
        have hv:zbn (cx C s bt w) (.v false [.d (.bool b)]) (a.tmps.getD t undef):=g.env t _ hx (get_some hb (by intro e; cases e))
        have hb:=zhg hv
        have hlt:t < a.tmps.size:=by
          rcases Nat.lt_or_ge t a.tmps.size with h' | h'
          · exact h'
          · simp[Array.getD,Nat.not_lt.2 h',undef] at hb
        have hget:a.tmps[t]? = some (.bool b):=by
          rw[Array.getElem?_eq_getElem hlt]; simp[Array.getD,hlt] at hb; rw[hb]
        have hy:yielded ops a.tmps j=some b:=by simp[yielded,hj',hget]
        simp only[Region.wanted,hg,hy]
        cases b<;>cases p<;>rfl
      · rename_i hun
        cases hw
        have hj':=hj
        rw[Array.getElem?_toList] at hj'
        have hx:=hX t (zg7 hg hj' rfl)
        have hv:=zmv g (x := .tmp t) (fun u hu hxu=>hx (by cases hu; exact hxu))
        simp only[zbs,Act.eval] at hv
        rw[hun] at hv
        have hv:=zAa hv
        have hy:yielded ops a.tmps j=none:=by
          unfold yielded
          rw[hj']
          simp only[Option.bind_some]
          cases hg':a.tmps[t]? with
          | none=>rfl
          | some v =>
            have:v=undef:=by
              have hlt:=(Array.getElem?_eq_some_iff.1 hg').1
              have:=(Array.getElem?_eq_some_iff.1 hg').2
              simp[Array.getD,hlt] at hv
              rw[← this,hv]
            subst this; rfl
        simp only[Region.wanted,hg,hy]; rfl
      · cases hw
    · cases hw
theorem Gam.zSM (g:Gam C s X bt tm w) (d:Nat) (a:AV):Gam C (s.set d a) (fun t=>X t∨t=d) bt tm w where
 len:=by simp[St.set,g.len]
 env t av hx h:=by
  have hne:d≠t:=fun e=>hx (.inr e.symm)
  simp only[St.set,List.getElem?_set,hne,if_false] at h
  exact g.env t av (fun h=>hx (.inl h)) h
 ents:=g.ents
 uniq:=g.uniq
 fresh:=g.fresh
 kb:=g.kb
 below:=g.below
 bs:=g.bs
 fx:=g.fx
 pin:=g.pin
 np:=g.np
theorem zqH {d t:Nat} {a:AV} (h:d≠t):(s.set d a).get t=s.get t:=by
 simp[St.get,St.set,List.getD_eq_getElem?_getD,h]
theorem zDs {d:Option Nat} {a:AV}:(znV d a s).ents=s.ents:=by cases d<;>rfl
theorem zDr {d:Option Nat} {a:AV}:znV d a (znV d a s)=znV d a s:=by
 cases d with
 | none=>rfl
 | some t=>simp[znV,St.set]
theorem zHD {d:Option Nat} {a:AV}:(znV d a s).env.length=s.env.length:=by cases d<;>simp[znV,St.set]
theorem Stp.stable (hp:zhS o=true) (hd:∀ d,o.dst=some d→d ∉ o.looksAt ops) (h:Stp E ops.toList o s s') (hwf:zHs o=true) :
    (∃ av,s'=znV o.dst av s)∧Stable E ops.toList o s' (zly s' o):=by
  have main:∀ av c,s'=znV o.dst av s→wantedA ops.toList o s=some c→(c=true→(evalOp E.lay E.cons o s).Yields (av,s))→(c=false→av = .tup [])→Stable E ops.toList o s' (zly s' o):=by
    intro av c hs hw hy hn
    have hget:∀ t∈o.looksAt ops,s'.get t=s.get t:=by
      intro t ht
      rw[hs]
      cases hdst:o.dst with
      | none=>rfl
      | some d=>exact zqH fun e=>hd d hdst (e▸ht)
    have hw':wantedA ops.toList o s'=some c:=by rw[zlK hget,hw]
    have hself:znV o.dst av s'=s':=by rw[hs,zDr]
    refine ⟨hwf,⟨c,hw'⟩,fun h=>?_,fun h=>?_,fun hr x hx n hn=>?_,fun hr x hx n hn l hl m hm=>?_,fun x hx n hn=>?_,fun d hdst n hn=>?_⟩
    · rw [hw'] at h; cases h
      refine ⟨av,(pure_local hp (fun x hx=>zhV hget hx) (fun x hx n hn=>?_) (hy rfl)).2,hself,fun d hdst hlt=>?_⟩
      · unfold zcV; rw[hs,zDs]
      · rw[hs] at hlt ⊢
        rw[zHD] at hlt
        simp[hdst,znV,St.set,hlt]
    · rw[hw'] at h; cases h
      rw[hn rfl] at hself; exact hself
    · unfold zly; rw[hr]; exact List.mem_append_left _ (zs9 (zqp (by simpa using hx) hn))
    · unfold zly; exact List.mem_append_right _ (znZ (List.mem_append_left _ (zoN (by simpa using hx) (.inr (zqq hl hm hn)))))
    · unfold zly; exact List.mem_append_right _ (znZ (List.mem_append_left _ (zoN (by simpa using hx) (.inl hn))))
    · unfold zly; rw[hdst]; exact List.mem_append_right _ (znZ (List.mem_append_right _ hn))
  rcases h with ⟨h1,h2,av,s1,h3,h4⟩ | ⟨h1,h2⟩
  · have hs1:=(pure_local (s':=s) hp (fun _ _=>rfl) (fun _ _ _ _=>rfl) h3).1
    subst hs1
    exact ⟨⟨av,h4⟩,main av true h4 h1 (fun _=>h3) (fun h=>by cases h)⟩
  · exact ⟨⟨_,h2⟩,main (.tup []) false h2 h1 (fun h=>by cases h) (fun _=>rfl)⟩
theorem zvP {lay:List (TypeId × TI)} {cons:List (FuncId × Con)} {s s' s1:St} {o:Oper} {av:AV} (hp:zhS o=true) (hop:∀ x∈o.op.operands,zbs s' x=zbs s x) (hlk:readsOf o=true→∀ x∈o.op.operands,∀ n∈(zbs s x).nms,zcV n s s')
    (hy:(evalOp lay cons o s).Yields (av,s1)):s1=s∧(evalOp lay cons o s').Yields (av,s'):=by
  cases hr:readsOf o with
  | true=>exact pure_local hp hop (hlk hr) hy
  | false =>
    unfold readsOf at hr
    split at hr
    · rename_i x ho
      unfold evalOp at hy ⊢
      simp only[ho,Op.operands] at hop hy ⊢
      rw[hop x (by simp)]; cases hy; exact ⟨rfl,rfl⟩
    · cases hr
theorem Stable.agree (hp:zhS o=true) (h:Stable E ops.toList o s N) (hget:∀ t∈o.looksAt ops,s'.get t=s.get t) (hlk:readsOf o=true→∀ x∈o.op.operands,∀ n∈(zbs s x).nms,zcV n s s')
    (hdst:∀ d,o.dst=some d→s'.env[d]? = s.env[d]?) (hlen:s'.env.length=s.env.length):Stable E ops.toList o s' N:=by
  have hw:=zlK hget
  have hg:∀ d,o.dst=some d→s'.get d=s.get d:=fun d hd=>by
    unfold St.get; rw[List.getD_eq_getElem?_getD,List.getD_eq_getElem?_getD,hdst d hd]
  have self:∀ av,znV o.dst av s=s→znV o.dst av s'=s':=by
    intro av h
    cases hd:o.dst with
    | none=>rfl
    | some d =>
      rw[hd] at h
      rcases Nat.lt_or_ge d s.env.length with hl | hl
      · have h1:s.env[d]? = some av:=by
          have h2:(s.set d av).env[d]? = s.env[d]? := by rw[show s.set d av=s from h]
          rw[← h2]; simp[St.set,hl]
        exact zDq (by rw[hdst d hd,h1])
      · have hl':s'.env.length≤d:=by rw[hlen]; exact hl
        have:s'.env.set d av=s'.env:=List.set_eq_of_length_le hl'
        simp only[znV,St.set,this]
  refine ⟨h.wf,by rw[hw]; exact h.known,fun hy=>?_,fun hn=>self _ (h.no (by rw[← hw]; exact hn)),fun hr x hx n hn=>?_,fun hr x hx n hn l hl m hm=>?_,fun x hx n hn=>?_,fun d hd n hn=>?_⟩
  · obtain ⟨av,h1,h2,h3⟩:=h.yes (by rw[← hw]; exact hy)
    refine ⟨av,(zvP hp (fun x hx=>zhV hget hx) hlk h1).2,self av h2,fun d hd hl=>?_⟩
    rw[hdst d hd]; exact h3 d hd (by rw[hlen] at hl; exact hl)
  · rw[zhV hget hx] at hn; exact h.opn hr x hx n hn
  · rw [zhV hget hx] at hn
    have hs:=hlk hr x hx n hn
    cases h':look n s.ents with
    | none=>unfold zcV at hs; rw[h',hl] at hs; cases hs
    | some e =>
      cases e with
      | box l'=>rw[hs.box h'] at hl; cases hl; exact h.box hr x hx n hn l h' m hm
      | arr fr t xs=>obtain ⟨fr',h2⟩:=hs.arr h'; rw[h2] at hl; cases hl
      | deep fr t xs=>obtain ⟨fr',h2⟩:=hs.deep h'; rw[h2] at hl; cases hl
  · rw[zhV hget hx] at hn; exact h.val x hx n hn
  · rw[hg d hd] at hn; exact h.res d hd n hn
theorem Stable.set (hp:zhS o=true) (h:Stable E ops.toList o s N) {d:Nat} {av:AV} (hl:d ∉ o.looksAt ops) (hd:o.dst≠some d):Stable E ops.toList o (s.set d av) N :=
 h.agree hp (fun t ht=>zqH fun e=>hl (e▸ht)) (fun _ _ _ _ _=>rfl) (fun u hu=>by
  have:d≠u:=fun e=>hd (e▸hu)
  simp[St.set,this]) (by simp[St.set])
theorem Stable.keep (hp:zhS o=true) (h:Stable E ops.toList o s N) {Kp:Nat→Prop} (hk:Keep T Kp s s') (hT:∀ n,2 * n∈N→¬ T n) (hK:∀ n,2 * n+1∈N→¬ Kp n):Stable E ops.toList o s' N:=by
  have slot:∀ t,(∀ m∈(s.get t).nms,¬ Kp m)→s'.env[t]? = s.env[t]? := by
    intro t ht
    cases h':s.env[t]? with
    | none =>
      rw[List.getElem?_eq_none_iff] at h' ⊢
      rw[hk.len]; exact h'
    | some av =>
      refine hk.env t av h' fun m hm=>ht m ?_
      unfold St.get; rw[List.getD_eq_getElem?_getD,h']; exact hm
  have get:∀ t,(∀ m∈(s.get t).nms,¬ Kp m)→s'.get t=s.get t:=fun t ht=>by
    unfold St.get; rw[List.getD_eq_getElem?_getD,List.getD_eq_getElem?_getD,slot t ht]
  refine h.agree hp (fun t ht=>?_) (fun hr x hx n hn=>hk.lk n (hT n (h.opn hr x hx n hn)) fun l hl m hm=>hK m (h.box hr x hx n hn l hl m hm)) (fun d hd=>slot d fun m hm=>hK m (h.res d hd m hm)) hk.len
  unfold Oper.looksAt at ht
  rcases List.mem_append.1 ht with ht | ht
  · obtain ⟨x,hx,hxt⟩:=List.mem_filterMap.1 ht
    cases x<;>simp at hxt
    subst hxt
    exact get _ fun m hm=>hK m (h.val (.tmp _) (by simpa using hx) m hm)
  · cases hg:o.guard with
    | none=>rw[hg] at ht; cases ht
    | some q =>
      obtain ⟨j,p⟩:=q
      rw[hg] at ht
      simp only[Option.mem_toList] at ht
      obtain ⟨c,hc⟩:=h.known
      unfold wantedA at hc
      rw[hg] at hc
      simp only at hc
      split at hc
      · rename_i o2 t' _ _ _ _ _ hj
        rw[Array.getElem?_toList] at hj
        have:t'=t:=by
          rw[hj] at ht; simpa using ht
        subst this
        split at hc
        · rename_i b hb
          refine get _ fun m hm=>?_
          rw[hb] at hm
          simp[AV.nms,zxW,A1.nms] at hm
        · rename_i hun
          refine get _ fun m hm=>?_
          rw[hun] at hm
          simp[AV.nms,zMR] at hm
        · cases hc
      · cases hc
end
end Go.Di
open Go.RowKit (Below)
namespace Go.Di
def Bs.more (C:Bs) (fl:Nat→Option Nat) (w:World):Bs:=⟨fun b=>C.keep b∨∃ i,fl i=some b,w,fun b=>C.old b∧¬ ∃ i,fl i=some b,C.pin,C.fix,fun b=>C.sure b∧C.keep b⟩
section
variable {P:Program} {C:Bs} {w w' w0:World} {s s':St} {X:Nat→Prop} {β β':Nat→Option Value} {tm:Array Value} {fl:Nat→Option Nat}
def zvu (f:Nat→Option Nat) (n:Nat) (v:Option Nat):Nat→Option Nat:=fun m=>if m=n then v else f m
theorem zei (f:Nat→Option Nat) (n:Nat) (v:Option Nat):zvu f n v n=v:=by simp[zvu]
theorem zbN (f:Nat→Option Nat) {n m:Nat} (v:Option Nat) (h:m≠n):zvu f n v m=f m:=by simp[zvu,h]
theorem Gam.zDB (g:Gam (C.more fl w0) s X β tm w):Gam (C.more fl w) s X β tm w :=
 ⟨g.len,g.env,g.ents,g.uniq,g.fresh,g.kb,Kp.refl _ _,g.pin,g.np,g.bs,fun b p hp=>⟨(g.fx b p hp).1,g.fxw b p hp⟩⟩
theorem Gam.zDS (g:Gam C s X β tm w):Gam (C.more (fun _=>none) w) s X β tm w:=by
 have hk:∀ b,(C.more (fun _=>none) w).keep b↔C.keep b:=fun b=>⟨fun h=>h.elim id (fun ⟨_,h⟩=>by cases h),fun h => .inl h⟩
 have hc:cx (C.more (fun _=>none) w) s β w=cx C s β w:=by
  simp only[cx,Cx.mk.injEq,true_and]
  funext b
  simp[Bs.more]
 exact ⟨g.len,fun t av hx h=>by rw[hc]; exact g.env t av hx h,fun n e v h1 h2=>by rw[hc]; exact g.ents n e v h1 h2,g.uniq,fun b hb=>⟨fun h=>(g.fresh b hb).1 ((hk b).1 h),(g.fresh b hb).2⟩,fun b hb=>g.kb b ((hk b).1 hb),Kp.refl _ _,g.pin,g.np,g.bs,fun b p hp=>⟨⟨(g.fx b p hp).1,.inl (g.fx b p hp).1.2⟩,g.fxw b p hp⟩⟩
theorem Gam.zs7 (g:Gam (C.more fl w0) s X β tm w) (h:∀ i,fl i=none) (hk:Kp C.keep C.w0 w):Gam C s X β tm w:=by
 have hno:∀ b,¬ ∃ i,fl i=some b:=fun b ⟨i,hi⟩=>by rw[h i] at hi; cases hi
 have hc:cx (C.more fl w0) s β w=cx C s β w:=by
  simp only[cx,Cx.mk.injEq,true_and]
  funext b
  simp[Bs.more,h]
 exact ⟨g.len,fun t av hx h=>by rw[← hc]; exact g.env t av hx h,fun n e v h1 h2=>by rw[← hc]; exact g.ents n e v h1 h2,g.uniq,fun b hb=>⟨fun h=>(g.fresh b hb).1 (.inl h),(g.fresh b hb).2⟩,fun b hb=>g.kb b (.inl hb),hk,g.pin,g.np,g.bs,fun b p hp=>by
  obtain ⟨cs,t,fr,h1,h2⟩:=g.fxw b p hp
  exact ⟨(g.fx b p hp).1.1,cs,t,fr,(hk.block b (g.fx b p hp).1.1.2).symm.trans h1,h2⟩⟩
theorem Gam.fly (g:Gam (C.more fl w0) s X β tm w) {i:Nat} (hi:fl i=none) (o:Obj) (d:Nat) (v:Value) :
    Gam (C.more (zvu fl i (some w.heap.size)) (w.alloc o)) s (fun t=>X t∨t=d) β (tm.setIfInBounds d v) (w.alloc o):=by
  have hb:Below w.heap.size w (w.alloc o):=zb3 w o
  have hsz:(w.alloc o).heap.size=w.heap.size+1:=by simp
  have hin:∀ b,(∃ j,zvu fl i (some w.heap.size) j=some b)↔(∃ j,fl j=some b)∨b=w.heap.size:=by
    intro b
    constructor
    · rintro ⟨j,hj⟩
      by_cases e:j=i
      · subst e; rw[zei] at hj; cases hj; exact .inr rfl
      · rw[zbN _ _ e] at hj; exact .inl ⟨j,hj⟩
    · rintro (⟨j,hj⟩ | rfl)
      · have e:j≠i:=by intro e; subst e; rw[hi] at hj; cases hj
        exact ⟨j,by rw[zbN _ _ e]; exact hj⟩
      · exact ⟨i,zei ..⟩
  -- what was read before is read now
  have hrd : ∀ v c,(cx (C.more fl w0) s β w).rd v c→(cx (C.more (zvu fl i (some w.heap.size)) (w.alloc o)) s β (w.alloc o)).rd v c:=by
    rintro v c ⟨fp,h1,h2⟩
    refine ⟨fp,h1.ext fun b hb'=>hb.block b (h2 b hb').1,fun b hb'=>⟨?_,(h2 b hb').2.1,?_⟩⟩
    · have:=(h2 b hb').1; show b < (w.alloc o).heap.size; simp only[cx] at this; omega
    · have hlt:b < w.heap.size:=(h2 b hb').1
      rcases (h2 b hb').2.2 with h | h
      · refine .inl fun hk=>?_
        rcases hk with hk | hk
        · exact h (.inl hk)
        · rcases (hin b).1 hk with hk | hk
          · exact h (.inr hk)
          · omega
      · refine .inr ⟨h.1,fun hk=>?_⟩
        rcases (hin b).1 hk with hk | hk
        · exact h.2 hk
        · omega
  have hfine:∀ b,(cx (C.more fl w0) s β w).fine [b]→(cx (C.more (zvu fl i (some w.heap.size)) (w.alloc o)) s β (w.alloc o)).fine [b]:=by
    intro b hf b' hb'
    simp only[List.mem_singleton] at hb'; subst hb'
    have h2:=hf b' (List.mem_cons_self ..)
    have hlt:b' < w.heap.size:=h2.1
    refine ⟨?_,h2.2.1,?_⟩
    · show b' < (w.alloc o).heap.size; omega
    · rcases h2.2.2 with h | h
      · refine .inl fun hk=>?_
        rcases hk with hk | hk
        · exact h (.inl hk)
        · rcases (hin b').1 hk with hk | hk
          · exact h (.inr hk)
          · omega
      · refine .inr ⟨h.1,fun hk=>?_⟩
        rcases (hin b').1 hk with hk | hk
        · exact h.2 hk
        · omega
  have hcat:∀ b q cs,(cx (C.more fl w0) s β w).zca b q cs→(cx (C.more (zvu fl i (some w.heap.size)) (w.alloc o)) s β (w.alloc o)).zca b q cs:=by
    intro b q cs h2
    refine ⟨h2.1.imp id (hfine b),fun j c hc=>?_⟩
    obtain ⟨u,hu,hd⟩:=h2.2 j c hc
    refine ⟨u,?_,hrd u c hd⟩
    rcases h2.1 with h0 | h0
    · subst h0; cases hc
    · have:=h0 b (List.mem_cons_self ..)
      show (w.alloc o).cell? _=_
      rw[World.cell?_of_block (w:=w) (hb.block b this.1)]; exact hu
  have ha1:∀ b v,A1Ok (cx (C.more fl w0) s β w) b v→A1Ok (cx (C.more (zvu fl i (some w.heap.size)) (w.alloc o)) s β (w.alloc o)) b v:=by
    intro b v h
    cases b with
    | d c=>exact hrd v c h
    | sp cs off =>
      obtain ⟨b,q,h1,h2⟩:=h
      exact ⟨b,q,h1,hcat b q cs h2⟩
    | fn f caps =>
      obtain ⟨vs,h1,h2,h3⟩:=h
      refine ⟨vs,h1,h2,fun j cs hj=>?_⟩
      obtain ⟨b,q,h4,h5⟩:=h3 j cs hj
      exact ⟨b,q,h4,hcat b q cs h5⟩
    | _=>exact h
  have hl1:∀ l vs,zdF (cx (C.more fl w0) s β w) l vs→zdF (cx (C.more (zvu fl i (some w.heap.size)) (w.alloc o)) s β (w.alloc o)) l vs:=fun l vs h=>h.conv fun a _ v ha=>ha1 a v ha
  refine ⟨by simp[g.len],fun t av hx h=>?_,fun n e u h1 h2=>?_,g.uniq,fun b h=>?_,fun b h=>?_,Kp.refl _ _,g.pin,g.np,g.bs,fun b p hp=>⟨⟨(g.fx b p hp).1.1,.inl (g.fx b p hp).1.1.2⟩,by
    obtain ⟨cs,t,fr,h1,h2⟩:=g.fxw b p hp
    exact ⟨cs,t,fr,(hb.block b (g.kb b (g.fx b p hp).1.2)).trans h1,h2⟩⟩⟩
  · have hne:d≠t:=fun e=>hx (.inr e.symm)
    have hv:(tm.setIfInBounds d v).getD t undef=tm.getD t undef:=by
      rw[Array.getD_eq_getD_getElem?,Array.getD_eq_getD_getElem?,Array.getElem?_setIfInBounds_ne hne]
    rw[hv]
    have:=g.env t av (fun h=>hx (.inl h)) h
    cases av with
    | v gg l=>exact VOk.conv (fun a _ v ha=>ha1 a v ha) this
    | tup ps=>obtain ⟨vs,e1,e2⟩:=this; exact ⟨vs,e1,e2.conv fun p _ a _ v ha=>ha1 a v ha⟩
  · have := g.ents n e u h1 h2
    have hT:e.mut=true→∀ b∈zaJ u,b < w.heap.size:=fun hm b hbt=>(g.fresh b ⟨n,e,u,h1,hm,h2,hbt⟩).2
    cases e with
    | box l =>
      obtain ⟨b,vs,T,k1,k2,k3⟩:=this
      refine ⟨b,vs,T,k1,?_,hl1 _ _ k3⟩
      show (w.alloc o).heap[b]? = _
      rw[hb.block b (hT rfl b (by subst k1; simp[zaJ]))]; exact k2
    | deep fr t xs =>
      cases fr with
      | false=>exact DeepOk.go this fun b hbt=>hb.block b (hT rfl b hbt)
      | true =>
        obtain ⟨sv,us,e1,hcd,h4⟩:=this
        refine ⟨sv,us,e1,hcd,?_⟩
        rcases h4 with h0 | ⟨gb,cap,k1,k2,k3,k4⟩
        · exact .inl h0
        · refine .inr ⟨gb,cap,k1,k2,hfine gb k3,fun j c hc=>?_⟩
          obtain ⟨u,b,q1,q2,q3,q4⟩:=k4 j c hc
          refine ⟨u,b,?_,q2,hrd u c q3,q4⟩
          have:=k3 gb (List.mem_cons_self ..)
          show (w.alloc o).cell? _=_
          rw[World.cell?_of_block (w:=w) (hb.block gb this.1)]; exact q1
    | arr fr t xs =>
      cases fr with
      | true=>exact hrd _ _ this
      | false =>
        rcases this with h0 | ⟨gb,cap,cur,T,k1,k2,k3,k4,k5,k6,k7⟩
        · exact .inl h0
        · refine .inr ⟨gb,cap,cur,T,k1,k2,k3,k4,?_,k6,fun j c hc=>?_⟩
          · show (w.alloc o).heap[gb]? = _
            rw[hb.block gb (hT rfl gb (by subst k1; cases cap with | zero=>omega | succ q=>simp[zaJ]))]; exact k5
          · obtain ⟨u',q1,q2⟩:=k7 j c hc
            exact ⟨u',q1,hrd u' c q2⟩
  · obtain ⟨q1,q2⟩:=g.fresh b h
    refine ⟨fun hk=>?_,by omega⟩
    rcases hk with hk | hk
    · exact q1 (.inl hk)
    · rcases (hin b).1 hk with hk | hk
      · exact q1 (.inr hk)
      · omega
  · rcases h with hk | hk
    · have:=g.kb b (.inl hk); omega
    · rcases (hin b).1 hk with hk | hk
      · have:=g.kb b (.inr hk); omega
      · omega
theorem Gam.land (g:Gam (C.more fl w0) s X β tm w) {i b n:Nat} (hi:fl i=some b) (hinj:∀ j,fl j=some b→j=i) (hkb:¬ C.keep b) (hn:n % 64≠63) {l:List A1} {vs:Array Value} {T:TypeId}
    (hl:∀ x:Cx,zdF x l vs.toList) (hh:w.heap[b]? = some (.cells vs T (0,0))) :
    Gam (C.more (zvu fl i none) w) (s.push n (.box l)) X (upd β n (.pointer (some ⟨b,0,none⟩))) tm w:=by
  have g1:=g.free n
  obtain ⟨hno1,hno2⟩:=zqn n s
  have hblt:b < w.heap.size:=by
    rcases Nat.lt_or_ge b w.heap.size with h | h
    · exact h
    · rw[Array.getElem?_eq_none h] at hh; cases hh
  have hkb':(C.more fl w0).keep b := .inr ⟨i,hi⟩
  have hin:∀ x,(∃ j,zvu fl i none j=some x)↔(∃ j,fl j=some x)∧x≠b:=by
    intro x
    constructor
    · rintro ⟨j,hj⟩
      by_cases e:j=i
      · subst e; rw[zei] at hj; cases hj
      · rw[zbN _ _ e] at hj
        exact ⟨⟨j,hj⟩,fun hx=>e (hinj j (hx▸hj))⟩
    · rintro ⟨⟨j,hj⟩,hx⟩
      have e:j≠i:=by intro e; subst e; rw[hi] at hj; cases hj; exact hx rfl
      exact ⟨j,by rw[zbN _ _ e]; exact hj⟩
  have hlk:∀ m,look m (s.push n (.box l)).ents=if m=n then some (.box l) else look m (s.free n).ents:=fun m=>by
    show look m (put n (.box l) (s.free n).ents)=_
    rw[zcg]
  have htop:∀ x,Top (fun m=>look m (s.push n (.box l)).ents) (upd β n (.pointer (some ⟨b,0,none⟩))) x→x=b∨Top (fun m=>look m (s.free n).ents) β x:=by
    rintro x ⟨m,e,v,h1,h2,h3,h4⟩
    simp only[hlk] at h1
    split at h1
    · rename_i hm; subst hm
      cases h1
      rw[upd_same] at h3; cases h3
      simp[zaJ] at h4; exact .inl h4
    · rename_i hm
      rw[zaO _ _ hm] at h3
      exact .inr ⟨m,e,v,h1,h2,h3,h4⟩
  have hle:Le (cx (C.more fl w0) (s.free n) β w) (cx (C.more (zvu fl i none) w) (s.push n (.box l)) (upd β n (.pointer (some ⟨b,0,none⟩))) w) (fun m=>m≠n):=by
    refine ⟨fun x h=>?_,fun _ _ _=>rfl,Nat.le_refl _,fun x hlt hav ht=>?_,fun m hm => .inr (.inl ⟨zaO _ _ hm,.inl ?_⟩),fun m hm _ fr t xs h=>⟨fr,?_,zaO _ _ hm⟩⟩
    · rcases h with h | h
      · refine .inl fun hk=>h ?_
        rcases hk with hk | hk
        · exact .inl hk
        · exact .inr ((hin x).1 hk).1
      · exact .inr ⟨h.1,fun hk=>h.2 ((hin x).1 hk).1⟩
    · rcases htop x ht with rfl | h
      · exfalso
        rcases hav with h | h
        · exact h hkb'
        · exact h.2 ⟨i,hi⟩
      · exact h
    · show look m (s.push n (.box l)).ents=look m (s.free n).ents
      rw[hlk,if_neg hm]
    · have h:look m (s.push n (.box l)).ents=some (.deep fr t xs):=h
      rw[hlk,if_neg hm] at h
      exact h
  refine ⟨g1.len,fun t av hx h=>?_,fun m e v h1 h2=>?_,?_,fun x h=>?_,fun x h=>?_,Kp.refl _ _,fun m v hp h=>?_,g.np,fun m e h=>?_,fun b p hp=>⟨⟨(g1.fx b p hp).1.1,.inl (g1.fx b p hp).1.1.2⟩,g1.fxw b p hp⟩⟩
  · exact hle.av (hno1.1 t av h) (g1.env t av hx h)
  · rw [hlk] at h1
    split at h1
    · rename_i hm; subst hm
      cases h1
      rw[upd_same] at h2; cases h2
      exact ⟨b,vs,T,rfl,hh,hl _⟩
    · rename_i hm
      rw[zaO _ _ hm] at h2
      exact EntOk.le hle (hno1.2 m e h1) (fun _ _ _=>rfl) (g1.ents m e v h1 h2)
  · intro m1 m2 e1 e2 u1 u2 x h1 h2 h3 h4 h5 h6 h7 h8
    rw[hlk] at h1 h2
    have old:∀ m e u,look m (s.free n).ents=some e→e.mut=true→β m=some u→x∈zaJ u→x≠b:=fun m e u k1 k2 k3 k4 hx =>
      (g1.fresh x ⟨m,e,u,k1,k2,k3,k4⟩).1 (hx▸hkb')
    split at h1<;>split at h2
    · rename_i a1 a2; rw[a1,a2]
    · rename_i a1 a2; subst a1; cases h1
      rw[upd_same] at h5; cases h5
      rw[zaO _ _ a2] at h6
      simp[zaJ] at h7
      exact absurd h7 (old m2 e2 u2 h2 h4 h6 h8)
    · rename_i a1 a2; subst a2; cases h2
      rw[upd_same] at h6; cases h6
      rw[zaO _ _ a1] at h5
      simp[zaJ] at h8
      exact absurd h8 (old m1 e1 u1 h1 h3 h5 h7)
    · rename_i a1 a2
      rw[zaO _ _ a1] at h5; rw[zaO _ _ a2] at h6
      exact g1.uniq m1 m2 e1 e2 u1 u2 x h1 h2 h3 h4 h5 h6 h7 h8
  · rcases htop x h with rfl | h
    · refine ⟨fun hk=>?_,hblt⟩
      rcases hk with hk | hk
      · exact hkb hk
      · exact ((hin x).1 hk).2 rfl
    · obtain ⟨q1,q2⟩:=g1.fresh x h
      refine ⟨fun hk=>q1 ?_,q2⟩
      rcases hk with hk | hk
      · exact .inl hk
      · exact .inr ((hin x).1 hk).1
  · rcases h with h | h
    · exact g.kb x (.inl h)
    · exact g.kb x (.inr ((hin x).1 h).1)
  · by_cases hm:m=n
    · subst hm; exact absurd (g.np m (by rw[show (C.more fl w0).pin m=some v from hp]; rfl)) hn
    · rw[zaO _ _ hm]
      rw[hlk,if_neg hm] at h
      exact g1.pin m v hp h
  · by_cases hm:m=n
    · subst hm; rw[upd_same]; rfl
    · rw[zaO _ _ hm]
      rw[hlk,if_neg hm] at h
      exact g1.bs m e h
end
end Go.Di
open Go.RowKit (Below)
namespace Go.Di
section
variable {P:Program} {C:Bs} {w w':World} {s s' s1:St} {X:Nat→Prop} {bt:Nat→Option Value} {a:Act} {o:Oper} {tm:Array Value} {β:Type}
 {K:Act→World→Prop} {Q:Exit→Act→World→Prop} {E:Env} {k:St→Option β} {r:β} {ops:Array Oper} {N:List Nat} {T:Nat→Prop}
/-! ### Ticks -/
def Un (listed:Array Bool) (j:Nat):Prop:=listed.getD j true=false
def Li (listed:Array Bool) (j:Nat):Prop:=listed.getD j false=true
theorem ziD {l:Array Bool} {j:Nat} (h:Un l j):¬ Li l j:=by
 unfold Un Li at *
 intro h'
 rcases Nat.lt_or_ge j l.size with hl | hl
 ·simp[Array.getD,hl] at h h'; rw[h] at h'; cases h'
 ·simp[Array.getD,Nat.not_lt.2 hl] at h
theorem zRz {l:Array Bool} {j:Nat} (h:Un l j):j < l.size:=by
 unfold Un at h
 rcases Nat.lt_or_ge j l.size with hl | hl
 ·exact hl
 ·simp[Array.getD,Nat.not_lt.2 hl] at h
theorem zFv {l:Array Bool} {j:Nat} (hl:j < l.size) (h:¬ Un l j):Li l j:=by
 unfold Un Li at *
 simp[Array.getD,hl] at h ⊢; exact h
theorem znA {l:Array Bool} {i j:Nat} (h:Li l j):Li (l.setIfInBounds i true) j:=getD_set_true h
theorem zwH {l:Array Bool} {i:Nat} (h:i < l.size):Li (l.setIfInBounds i true) i:=by
 unfold Li; simp[Array.getD,h]
theorem zpY {l:Array Bool} {i j:Nat} (h:Un l j) (hne:i≠j):Un (l.setIfInBounds i true) j:=by
 unfold Un at *; rw[getD_set_ne true hne]; exact h
theorem zBh {l:Array Bool} {i j:Nat} (h:Li (l.setIfInBounds i true) j):Li l j∨j=i:=by
 by_cases e:i=j
 ·exact .inr e.symm
 ·unfold Li at *; rw[getD_set_ne false e] at h; exact .inl h
/-! ### What the check of a plan says -/
theorem zAE {pre:List Nat} (h:zDH o pre=true):∀ e∈o.after,Region.binds .any e=true→e.on∈pre:=by
 intro e he hb
 have:=Array.all_eq_true_iff_forall_mem.1 h e he
 simp only[hb,Bool.not_true,Bool.false_or] at this
 exact zbo.1 this
theorem zib {j:Nat} (h:zpv o j=true):∃ e∈o.after,Region.binds .any e=true∧e.on=j:=by
 obtain ⟨e,he,hb⟩:=Array.any_eq_true'.1 h
 simp only[Bool.and_eq_true] at hb
 exact ⟨e,he,hb.1,Nat.eq_of_beq_eq_true hb.2⟩
structure HeadOk (ops:Array Oper) (pre:List Nat) (i:Nat) (A:List Nat) (rest:List (Nat × List Nat)) (o:Oper):Prop where
 preds:∀ e∈o.after,Region.binds .any e=true→e.on∈pre
 nin:i ∉ pre
 ear:early o=true→zhD ops i o=true
 forced:early o=false→∀ p∈rest,∃ o',ops[p.1]? = some o'∧(flo o'=true∨∃ e∈o'.after,Region.binds .any e=true∧(e.on=i∨∃ q∈rest,e.on=q.1∧∃ oq,ops[q.1]? = some oq∧flo oq=false))
 fl:early o=false→flo o=true→zhD ops i o=true
 anc:early o=false→ancOk ops o A []=true
 slots:early o=false→∀ q∈pre,q∈A∨∀ oq,ops[q]? = some oq→early oq=true→∀ d,o.dst=some d→d ∉ oq.looksAt ops∧oq.dst≠some d
 tail:planOk ops (i :: pre) rest=true
theorem planOk_head {pre:List Nat} {i:Nat} {A:List Nat} {rest:List (Nat × List Nat)} (h:planOk ops pre ((i,A) :: rest)=true):∃ o,ops[i]? = some o∧HeadOk ops pre i A rest o:=by
  unfold planOk at h
  cases ho:ops[i]? with
  | none=>rw[ho] at h; cases h
  | some o =>
    rw[ho] at h
    simp only[Bool.and_eq_true,Bool.not_eq_true'] at h
    obtain ⟨⟨⟨h1,h2⟩,h3⟩,h4⟩:=h
    refine ⟨o,rfl,zAE h1,fun hm=>(by rw[zbo.2 hm] at h2; cases h2),fun he=>(by rw[he] at h3; exact h3),fun he p hp=>?_,fun he hf=>?_,fun he=>?_,fun he q hq=>?_,h4⟩
    · rw [he] at h3
      simp only[Bool.and_eq_true] at h3
      have:=List.all_eq_true.1 h3.1.1.1 p hp
      cases hop:ops[p.1]? with
      | none=>rw[hop] at this; cases this
      | some o' =>
        rw[hop] at this
        rcases (Bool.or_eq_true _ _).mp this with hf | this
        · exact ⟨o',rfl,.inl hf⟩
        obtain ⟨e,he',hb⟩:=Array.any_eq_true'.1 this
        simp only[Bool.and_eq_true,Bool.or_eq_true] at hb
        refine ⟨o',rfl,.inr ⟨e,he',hb.1,?_⟩⟩
        rcases hb.2 with h | h
        · exact .inl (Nat.eq_of_beq_eq_true h)
        · obtain ⟨q,hq,hqe⟩:=List.any_eq_true.1 h
          simp only[Bool.and_eq_true] at hqe
          refine .inr ⟨q,hq,Nat.eq_of_beq_eq_true hqe.1,?_⟩
          have h2:=hqe.2
          split at h2
          · rename_i oq hoq; exact ⟨oq,hoq,by simpa using h2⟩
          · cases h2
    · rw[he] at h3
      simp only[Bool.and_eq_true] at h3
      have:=h3.1.1.2
      rw[hf] at this
      simpa using this
    · rw[he] at h3
      simp only[Bool.and_eq_true] at h3
      exact h3.1.2
    · rw [he] at h3
      simp only[Bool.and_eq_true] at h3
      have:=List.all_eq_true.1 h3.2 q hq
      simp only[Bool.or_eq_true] at this
      rcases this with h | h
      · exact .inl (zbo.1 h)
      · refine .inr fun oq hoq heq d hd=>?_
        rw[hoq] at h
        simp only[heq,Bool.not_true,Bool.false_eq_true,false_or,hd,Bool.or_eq_true] at h
        unfold zG8 at h
        simp only[Bool.and_eq_true,Bool.not_eq_true'] at h
        refine ⟨fun hm=>(by rw[zbo.2 hm] at h; cases h.1),fun he=>?_⟩
        rw[he] at h
        simp at h
theorem zgT:∀ {rest:List (Nat × List Nat)} {pre:List Nat},planOk ops pre rest=true→∀ p∈rest,p.1 ∉ pre
  | (i,A) :: rest,pre,h,p,hp=>by
    obtain ⟨o,ho,hh⟩:=planOk_head h
    rcases List.mem_cons.1 hp with rfl | hp
    · exact hh.nin
    · intro hm
      exact zgT hh.tail p hp (List.mem_cons_of_mem _ hm)
def zKi (ops:Array Oper):List Nat→Prop
 | []=>True
 | i :: pre=>(∃ o,ops[i]? = some o∧∀ e∈o.after,Region.binds .any e=true→e.on∈pre)∧zKi ops pre
theorem zlx:∀ {pre:List Nat},zKi ops pre→∀ q∈pre,∃ o,ops[q]? = some o∧∀ e∈o.after,Region.binds .any e=true→e.on∈pre
  | i :: pre,h,q,hq=>by
    rcases List.mem_cons.1 hq with rfl | hq
    · obtain ⟨o,ho,hp⟩:=h.1
      exact ⟨o,ho,fun e he hb=>List.mem_cons_of_mem _ (hp e he hb)⟩
    · obtain ⟨o,ho,hp⟩:=zlx h.2 q hq
      exact ⟨o,ho,fun e he hb=>List.mem_cons_of_mem _ (hp e he hb)⟩
theorem zoh {listed:Array Bool} (hs:listed.size=ops.size) (hr:Region.ready .any ops listed=[]):∀ {pre:List Nat},zKi ops pre→∀ q∈pre,Li listed q
  | i :: pre,h,q,hq=>by
    rcases List.mem_cons.1 hq with rfl | hq
    · obtain ⟨o,ho,hp⟩:=h.1
      have hlt:q < listed.size:=by rw[hs]; exact (Array.getElem?_eq_some_iff.1 ho).1
      refine zFv hlt fun hu=>?_
      have:q∈Region.ready .any ops listed:=mem_ready.2 ⟨hu,o,ho,fun e he hb=>zoh hs hr h.2 _ (hp e he hb)⟩
      rw[hr] at this; cases this
    · exact zoh hs hr h.2 q hq
theorem anc_listed {listed:Array Bool} (hc:∀ j o,ops[j]? = some o→Li listed j→∀ e∈o.after,Region.binds .any e=true→Li listed e.on)
    (ho:∀ e∈o.after,Region.binds .any e=true→Li listed e.on):∀ {A known:List Nat},ancOk ops o A known=true→(∀ q∈known,Li listed q)→∀ q∈A,Li listed q
  | b :: A,known,h,hk,q,hq=>by
    unfold ancOk at h
    simp only[Bool.and_eq_true,Bool.or_eq_true] at h
    have hb:Li listed b:=by
      rcases h.1 with h1 | h1
      · obtain ⟨e,he,hb,rfl⟩:=zib h1
        exact ho e he hb
      · obtain ⟨m,hm,h2⟩:=List.any_eq_true.1 h1
        cases hom:ops[m]? with
        | none=>rw[hom] at h2; cases h2
        | some om =>
          rw[hom] at h2
          obtain ⟨e,he,hb,rfl⟩:=zib h2
          exact hc m om hom (hk m hm) e he hb
    rcases List.mem_cons.1 hq with rfl | hq
    · exact hb
    · exact anc_listed hc ho h.2 (fun q hq=>(by rcases List.mem_cons.1 hq with rfl | hq; exact hb; exact hk q hq)) q hq
theorem zf2 {i:Nat} (h:zhD ops i o=true) {d:Nat} (hd:o.dst=some d):d ∉ o.looksAt ops∧∀ j oj,ops[j]? = some oj→j≠i→oj.dst≠some d∧(d∈oj.looksAt ops→zpv oj i=true):=by
 unfold zhD at h
 rw[hd] at h
 simp only[Bool.and_eq_true,Bool.not_eq_true'] at h
 refine ⟨fun hm=>(by rw[zbo.2 hm] at h; cases h.1),fun j oj hj hne=>?_⟩
 have:=List.all_eq_true.1 h.2 j (List.mem_range.2 (Array.getElem?_eq_some_iff.1 hj).1)
 rw[hj] at this
 simp only[Bool.or_eq_true,Bool.and_eq_true,Bool.not_eq_true'] at this
 rcases this with h1 | ⟨h1,h2⟩
 ·exact absurd (Nat.eq_of_beq_eq_true h1) hne
 ·refine ⟨fun he=>(by rw[he] at h1; simp at h1),fun hm=>?_⟩
  rcases h2 with h2 | h2
  ·rw[zbo.2 hm] at h2; cases h2
  ·exact h2
theorem zkg (h:early o=true):zhS o=true:=by
 unfold early at h
 split at h
 ·cases h
 ·simp only[Bool.and_eq_true] at h; exact h.2
theorem zIu (h:early o=true):zHs o=true:=by
 unfold early at h
 split at h
 ·cases h
 ·simp only[Bool.and_eq_true] at h; exact h.1
theorem zqi:∀ {rest:List (Nat × List Nat)} {pre:List Nat},planOk ops pre rest=true→∀ p∈rest,∀ o,ops[p.1]? = some o→early o=false→flo o=true→zhD ops p.1 o=true
  | (i,A) :: rest,pre,h,p,hp,o,ho,he,hf=>by
    obtain ⟨o',ho',hh⟩:=planOk_head h
    rcases List.mem_cons.1 hp with rfl | hp
    · rw[ho] at ho'; cases ho'; exact hh.fl he hf
    · exact zqi hh.tail p hp o ho he hf
theorem zrL (h:flo o=true):∃ t d,o.op = .alloc t∧o.guard=none∧o.dst=some d:=by
 unfold flo at h
 split at h
 ·exact ⟨_,_,by assumption,by assumption,by assumption⟩
 ·cases h
theorem zrM (h:flo o=true):early o=false:=by
 obtain ⟨t,d,h1,_,_⟩:=zrL h
 simp[early,h1,zhS]
/-! ### The walk through any order -/
structure FlOk (C:Bs) (lay:List (TypeId × TI)) (ops:Array Oper) (listed:Array Bool) (rest:List (Nat × List Nat)) (tm:Array Value) (w:World) (q b:Nat):Prop where
 keep:¬ C.keep b
 li:Li listed q
 rest:∃ A,(q,A)∈rest
 op : ∃ o t d i vs,ops[q]? = some o∧flo o=true∧o.op = .alloc t∧o.dst=some d∧zhD ops q o=true∧tm.setIfInBounds d (.pointer (some ⟨b,0,none⟩))=tm∧zdc t lay=some i ∧
  w.heap[b]? = some (.cells vs t (0,0))∧∀ x:Cx,zdF x i.zero vs.toList
structure Inv (C:Bs) (E:Env) (ops:Array Oper) (k:St→Option β) (r:β) (listed:Array Bool) (pre:List Nat) (rest op:List (Nat × List Nat)) (Pd:List Nat) (fl:Nat→Option Nat) (s:St) (X:Nat→Prop) (bt:Nat→Option Value) (a:Act) (w:World):Prop where
 gam:Gam (C.more fl w) s X bt a.tmps w
 kp:Kp C.keep C.w0 w
 defers:a.defers=[]
 hx:∀ t,X t→(∃ q∈Pd,∃ o,ops[q]? = some o∧o.dst=some t)∨∃ q b o,fl q=some b∧ops[q]? = some o∧o.dst=some t
 size:listed.size=ops.size
 all:∀ j,j < ops.size→Li listed j∨(∃ p∈rest,p.1=j)∨j∈Pd
 unR:∀ p∈rest,Un listed p.1∨∃ b,fl p.1=some b
 unP:∀ q∈Pd,Un listed q
 pdPre:∀ q∈Pd,q∈pre
 pdNodup:Pd.Nodup
 stab:∀ q∈Pd,∃ o N,ops[q]? = some o∧(q,N)∈op∧early o=true∧zhD ops q o=true∧Stable E ops.toList o s N
 closed:∀ j o,ops[j]? = some o→Li listed j→∀ e∈o.after,Region.binds .any e=true→Li listed e.on
 preOk:zKi ops pre
 plan:planOk ops pre rest=true
 run:runD E ops.toList rest op s k=some r
 flOk:∀ q b,fl q=some b→FlOk C E.lay ops listed rest a.tmps w q b
 flInj:∀ q q' b,fl q=some b→fl q'=some b→q=q'
theorem Inv.ahead {listed:Array Bool} {pre:List Nat} {rest op:List (Nat × List Nat)} {Pd A:List Nat} {i:Nat} {fl:Nat→Option Nat} (h:Inv C E ops k r listed pre ((i,A) :: rest) op Pd fl s X bt a w)
    (ho:ops[i]? = some o) (he:early o=true):∃ op' s' X',Inv C E ops k r listed (i :: pre) rest op' (i :: Pd) fl s' X' bt a w:=by
  obtain ⟨o2,ho2,hh⟩:=planOk_head h.plan
  rw[ho] at ho2; cases ho2
  have hrun:=h.run
  unfold runD at hrun
  rw[Array.getElem?_toList,ho] at hrun
  simp only[he] at hrun
  obtain ⟨s',hst,hk⟩:=runOp_stp hrun
  have hp:=zkg he
  have hE:=hh.ear he
  have hwf:zHs o=true:=zIu he
  obtain ⟨⟨av,hs'⟩,hstab⟩:=hst.stable hp (fun d hd=>(zf2 hE hd).1) hwf
  have hfi:∀ b,fl i≠some b:=fun b hb=>by
    obtain ⟨o3,t,d,i3,vs,e1,e2,_⟩:=(h.flOk i b hb).op
    rw[ho] at e1; cases e1
    rw[zrM e2] at he; cases he
  refine ⟨_,s',fun t=>X t∨o.dst=some t,?_,h.kp,h.defers,fun t ht=>?_,h.size,fun j hj=>?_,fun p hp=>h.unR p (List.mem_cons_of_mem _ hp),fun q hq=>?_,fun q hq=>?_,?_,fun q hq=>?_,h.closed,⟨⟨o,ho,hh.preds⟩,h.preOk⟩,hh.tail,hk,fun q b hq=>?_,h.flInj⟩
  · rw[hs']
    cases hd:o.dst with
    | none=>exact h.gam.weaken fun t ht => .inl ht
    | some d=>exact (h.gam.zSM d av).weaken fun t ht=>ht.imp id fun e=>by rw[e]
  · rcases ht with ht | ht
    · rcases h.hx t ht with ⟨q,hq,x⟩ | x
      · exact .inl ⟨q,List.mem_cons_of_mem _ hq,x⟩
      · exact .inr x
    · exact .inl ⟨i,List.mem_cons_self ..,o,ho,ht⟩
  · rcases h.all j hj with h1 | ⟨p,hp,rfl⟩ | h1
    · exact .inl h1
    · rcases List.mem_cons.1 hp with rfl | hp
      · exact .inr (.inr (List.mem_cons_self ..))
      · exact .inr (.inl ⟨p,hp,rfl⟩)
    · exact .inr (.inr (List.mem_cons_of_mem _ h1))
  · rcases List.mem_cons.1 hq with rfl | hq
    · exact (h.unR _ (List.mem_cons_self ..)).resolve_right fun ⟨b,hb⟩=>hfi b hb
    · exact h.unP q hq
  · rcases List.mem_cons.1 hq with rfl | hq
    · exact List.mem_cons_self ..
    · exact List.mem_cons_of_mem _ (h.pdPre q hq)
  · exact List.nodup_cons.2 ⟨fun hm=>hh.nin (h.pdPre i hm),h.pdNodup⟩
  · rcases List.mem_cons.1 hq with rfl | hq
    · exact ⟨o,_,ho,List.mem_cons_self ..,he,hE,hstab⟩
    · obtain ⟨oq,M,h1,h2,h3,h4,h5⟩:=h.stab q hq
      refine ⟨oq,M,h1,List.mem_cons_of_mem _ h2,h3,h4,?_⟩
      rw[hs']
      cases hd:o.dst with
      | none=>exact h5
      | some d =>
        have hne:q≠i:=fun e=>hh.nin (e▸h.pdPre q hq)
        obtain ⟨h6,h7⟩:=(zf2 hE hd).2 q oq h1 hne
        refine h5.set (zkg h3) (fun hm=>?_) h6
        obtain ⟨e,he',hb,heq⟩:=zib (h7 hm)
        obtain ⟨o3,ho3,hp3⟩:=zlx h.preOk q (h.pdPre q hq)
        rw[h1] at ho3; cases ho3
        have:=hp3 e he' hb
        rw[heq] at this
        exact hh.nin this
  · have hf:=h.flOk q b hq
    refine ⟨hf.keep,hf.li,?_,hf.op⟩
    obtain ⟨B,hB⟩:=hf.rest
    rcases List.mem_cons.1 hB with e | hB
    · cases e; exact absurd hq (hfi b)
    · exact ⟨B,hB⟩
end
end Go.Di
open Go.RowKit (Below)
namespace Go.Di
section
variable {P:Program} {C:Bs} {w w':World} {s s' s1:St} {X:Nat→Prop} {bt:Nat→Option Value} {a:Act} {o:Oper} {tm:Array Value} {β:Type}
 {K:Act→World→Prop} {Q:Exit→Act→World→Prop} {E:Env} {k:St→Option β} {r:β} {ops:Array Oper} {N:List Nat} {T:Nat→Prop}
 {listed:Array Bool} {pre:List Nat} {rest op:List (Nat × List Nat)} {Pd A:List Nat} {i:Nat} {fl:Nat→Option Nat}
theorem zDE (g:Gam C s X bt a.tmps w) {av:AV} {v:Value} (ha:zbn (cx C s bt w) av v) (d:Option Nat) :
  Gam C (znV d av s) (fun t=>X t∧d≠some t) bt (a.put d v).tmps w:=by
 cases d with
 | none=>exact g.weaken fun t ht=>⟨ht,by simp⟩
 | some d=>exact (g.set ha).weaken fun t ht=>⟨ht.1,fun e=>ht.2 (by cases e; rfl)⟩
theorem put_defers (d:Option Nat) (v:Value):(a.put d v).defers=a.defers:=by cases d<;>rfl
theorem Inv.free (h:Inv C E ops k r listed pre rest op Pd fl s X bt a w) (ho:ops[i]? = some o) (hr:∀ e∈o.after,Region.binds .any e=true→Li listed e.on) (hpre:∀ e∈o.after,Region.binds .any e=true→e.on∈pre)
  (hself:i∈Pd→∀ d,o.dst=some d→d ∉ o.looksAt ops) (hnfl:∀ b,fl i≠some b):∀ t∈o.looksAt ops,¬ X t:=by
 intro t ht hX
 rcases h.hx t hX with ⟨q,hq,oq,h1,h2⟩ | ⟨q,b,oq,hq,h1,h2⟩
 ·by_cases e:q=i
  ·subst e
   rw[ho] at h1; cases h1
   exact hself hq t h2 ht
  ·obtain ⟨oq',M,h3,_,h5,h6,_⟩:=h.stab q hq
   rw[h1] at h3; cases h3
   obtain ⟨e',he',hb,heq⟩:=zib (((zf2 h6 h2).2 i o ho (Ne.symm e)).2 ht)
   have:=hr e' he' hb
   rw[heq] at this
   exact ziD (h.unP q hq) this
 ·have e:q≠i:=fun e=>hnfl b (e▸hq)
  have hf:=h.flOk q b hq
  obtain ⟨o3,t3,d3,i3,vs,e1,e2,e3,e4,e5,_⟩:=hf.op
  rw[h1] at e1; cases e1
  obtain ⟨e',he',hb,heq⟩:=zib (((zf2 e5 h2).2 i o ho (Ne.symm e)).2 ht)
  have:=hpre e' he' hb
  rw[heq] at this
  obtain ⟨B,hB⟩:=hf.rest
  exact zgT h.plan _ hB this
theorem zo4 {rest':List (Nat × List Nat)} {lay:List (TypeId × TI)} {q b:Nat} (hf:FlOk C lay ops listed rest a.tmps w q b) (hblk:w'.heap[b]? = w.heap[b]?) (ho:ops[i]? = some o) (hne:q≠i) {v:Value} {l':Array Bool} (hl:Li listed q→Li l' q)
    (hrest:(∃ A,(q,A)∈rest)→∃ A,(q,A)∈rest'):FlOk C lay ops l' rest' (a.put o.dst v).tmps w' q b:=by
  obtain ⟨o3,t3,d3,i3,vs,e1,e2,e3,e4,e5,e6,e7,e8,e9⟩:=hf.op
  refine ⟨hf.keep,hl hf.li,hrest hf.rest,o3,t3,d3,i3,vs,e1,e2,e3,e4,e5,?_,e7,by rw[hblk]; exact e8,e9⟩
  cases hd:o.dst with
  | none=>exact e6
  | some d =>
    have:d≠d3:=fun e=>((zf2 e5 e4).2 i o ho (Ne.symm hne)).1 (by rw[hd,e])
    show (a.tmps.setIfInBounds d v).setIfInBounds d3 _=a.tmps.setIfInBounds d v
    rw[← Array.setIfInBounds_comm _ _ this.symm,e6]
theorem zmF (hc:∀ j o,ops[j]? = some o→Li listed j→∀ e∈o.after,Region.binds .any e=true→Li listed e.on) (ho:ops[i]? = some o) (hr:∀ e∈o.after,Region.binds .any e=true→Li listed e.on) :
  ∀ j o,ops[j]? = some o→Li (listed.setIfInBounds i true) j→∀ e∈o.after,Region.binds .any e=true→Li (listed.setIfInBounds i true) e.on:=by
 intro j oj hj hl e he hb
 rcases zBh hl with h | rfl
 ·exact znA (hc j oj hj h e he hb)
 ·rw[ho] at hj; cases hj; exact znA (hr e he hb)
theorem Inv.nfl (h:Inv C E ops k r listed pre rest op Pd fl s X bt a w) (hr:Un listed i):∀ b,fl i≠some b:=fun b hb=>ziD hr (h.flOk i b hb).li
theorem Inv.pend (hL:zdE P E.lay) (hC:zak P C.fix E.cons) (h:Inv C E ops k r listed pre rest op Pd fl s X bt a w) (hi:i∈Pd) (hr:i∈Region.ready .any ops listed)
    (hK:∀ X' bt' a' w',Inv C E ops k r (listed.setIfInBounds i true) pre rest op (Pd.erase i) fl s X' bt' a' w'→K a' w'):wpOp P ops Q i K a w:=by
  obtain ⟨o,N,ho,hN,he,hE,hst⟩:=h.stab i hi
  obtain ⟨hu,o2,ho2,hp⟩:=mem_ready.1 hr
  rw[ho] at ho2; cases ho2
  have hnf:=h.nfl hu
  have hpre:∀ e∈o.after,Region.binds .any e=true→e.on∈pre:=by
    obtain ⟨o3,ho3,hp3⟩:=zlx h.preOk i (h.pdPre i hi)
    rw[ho] at ho3; cases ho3; exact hp3
  have hX:=h.free ho hp hpre (fun _ d hd=>(zf2 hE hd).1) hnf
  have next:∀ {av:AV} {v:Value} {bt' w'},Gam (C.more fl w) s X bt' a.tmps w'→zbn (cx (C.more fl w) s bt' w') av v→znV o.dst av s=s→K (a.put o.dst v) w':=by
    intro av v bt' w' g hav hself
    have g':=zDE g hav o.dst
    rw[hself] at g'
    have hn:=h.pdNodup
    refine hK _ _ _ _ ⟨g'.zDB,h.kp.trans (g.below.mono fun b hb => .inl hb),by rw[put_defers]; exact h.defers,fun t ht=>?_,by simp[h.size],fun j hj=>?_,fun p hp=>?_,fun q hq=>?_,fun q hq=>?_,hn.erase i,fun q hq=>?_,zmF h.closed ho hp,h.preOk,h.plan,h.run,fun q b hq=>?_,h.flInj⟩
    · rcases h.hx t ht.1 with ⟨q,hq,oq,h1,h2⟩ | x
      · refine .inl ⟨q,(hn.mem_erase_iff).2 ⟨fun e=>?_,hq⟩,oq,h1,h2⟩
        subst e; rw[ho] at h1; cases h1; exact ht.2 h2
      · exact .inr x
    · by_cases e:j=i
      · exact .inl (by subst e; exact zwH (by rw[h.size]; exact hj))
      · rcases h.all j hj with h1 | h1 | h1
        · exact .inl (znA h1)
        · exact .inr (.inl h1)
        · exact .inr (.inr ((hn.mem_erase_iff).2 ⟨e,h1⟩))
    · exact (h.unR p hp).imp (fun hx=>zpY hx fun e=>zgT h.plan p hp (e▸h.pdPre i hi)) id
    · have:=(hn.mem_erase_iff).1 hq
      exact zpY (h.unP q this.2) (Ne.symm this.1)
    · exact h.pdPre q ((hn.mem_erase_iff).1 hq).2
    · exact h.stab q ((hn.mem_erase_iff).1 hq).2
    · exact zo4 (h.flOk q b hq) (g.below.block b (.inr ⟨q,hq⟩)) ho (fun e=>hnf b (e▸hq)) znA id
  unfold wpOp
  rw[ho]
  simp only
  obtain ⟨c,hc⟩:=hst.known
  rw[wantedA_sound h.gam hX hc]
  cases c with
  | true =>
    obtain ⟨av,h1,h2,_⟩:=hst.yes hc
    rw[if_pos rfl]
    exact .inl (zjy hL (by exact hC) hst.wf h.gam (fun t ht=>hX t (zoO ht)) h1 fun v w' bt' g hav=>next g hav h2)
  | false =>
    simp only[Bool.false_eq_true,if_false]
    exact next h.gam zOq (hst.no hc)
theorem Inv.zxx (h:Inv C E ops k r listed pre ((i,A) :: rest) op Pd fl s X bt a w) (_ho:ops[i]? = some o) (he:early o=false) (hh:HeadOk ops pre i A rest o) (hA:∀ q∈A,Li listed q) {av:AV}
    (hsep:zlP (zxt E.cons s o) (ztT A op)=true) (hkeep:Keep (fun n=>touch E.cons s o n=true) (fun n=>zfV E.cons s o n=true) s s1) (hs':s'=znV o.dst av s1) :
    ∀ q∈Pd,∃ o N,ops[q]? = some o∧(q,N)∈ztT A op∧early o=true∧zhD ops q o=true∧Stable E ops.toList o s' N:=by
  intro q hq
  obtain ⟨oq,M,h1,h2,h3,h4,h5⟩:=h.stab q hq
  have hqA:q ∉ A:=fun hm=>ziD (h.unP q hq) (hA q hm)
  have hmem:=zoP hqA h2
  have hkeep':=h5.keep (zkg h3) hkeep (fun n hn=>by
    have h:=zlu hsep _ hmem _ hn
    unfold zxt at h
    rw[show 2 * n % 2=0 by omega,show 2 * n / 2=n by omega] at h
    have h':touch E.cons s o n=false:=h
    rw[h']; simp) (fun n hn=>by
    have h:=zlu hsep _ hmem _ hn
    unfold zxt at h
    rw[show (2 * n+1) % 2=1 by omega,show (2 * n+1) / 2=n by omega] at h
    have h':zfV E.cons s o n=false:=h
    rw[h']; simp)
  refine ⟨oq,M,h1,hmem,h3,h4,?_⟩
  rw[hs']
  cases hd:o.dst with
  | none=>exact hkeep'
  | some d =>
    rcases hh.slots he q (h.pdPre q hq) with h6 | h6
    · exact absurd h6 hqA
    · obtain ⟨h7,h8⟩:=h6 oq h1 h3 d hd
      exact hkeep'.set (zkg h3) h7 h8
theorem Inv.late (hL:zdE P E.lay) (hC:zak P C.fix E.cons) (h:Inv C E ops k r listed pre ((i,A) :: rest) op Pd fl s X bt a w) (ho:ops[i]? = some o) (he:early o=false) (hr:i∈Region.ready .any ops listed)
    (hK:∀ op' s' X' bt' a' w',Inv C E ops k r (listed.setIfInBounds i true) (i :: pre) rest op' Pd fl s' X' bt' a' w'→K a' w'):wpOp P ops Q i K a w:=by
  obtain ⟨hu,o2,ho2,hp⟩:=mem_ready.1 hr
  rw[ho] at ho2; cases ho2
  obtain ⟨o3,ho3,hh⟩:=planOk_head h.plan
  rw[ho] at ho3; cases ho3
  have hnf:=h.nfl hu
  have hin:i ∉ Pd:=fun hm=>hh.nin (h.pdPre i hm)
  have hX:=h.free ho hp hh.preds (fun hm=>absurd hm hin) hnf
  have hA:∀ q∈A,Li listed q:=anc_listed h.closed hp (hh.anc he) (fun q hq=>by cases hq)
  have hrun:=h.run
  unfold runD at hrun
  rw[Array.getElem?_toList,ho] at hrun
  simp only[he] at hrun
  split at hrun
  · rename_i hsep
    obtain ⟨s',hst,hk⟩:=runOp_stp hrun
    have next:∀ {av:AV} {v:Value} {bt' w' s1},Gam (C.more fl w) s1 X bt' a.tmps w'→zbn (cx (C.more fl w) s1 bt' w') av v→Keep (fun n=>touch E.cons s o n=true) (fun n=>zfV E.cons s o n=true) s s1→s'=znV o.dst av s1→K (a.put o.dst v) w':=by
      intro av v bt' w' s1 g hav hkeep hs'
      have g':=zDE g hav o.dst
      rw[← hs'] at g'
      refine hK _ _ _ _ _ _ ⟨g'.zDB,h.kp.trans (g.below.mono fun b hb => .inl hb),by rw[put_defers]; exact h.defers,fun t ht=>h.hx t ht.1,by simp[h.size],fun j hj=>?_,fun p hp=>?_,fun q hq=>?_,fun q hq=>List.mem_cons_of_mem _ (h.pdPre q hq),h.pdNodup,
        h.zxx ho he hh hA hsep hkeep hs',zmF h.closed ho hp,⟨⟨o,ho,hh.preds⟩,h.preOk⟩,hh.tail,hk,fun q b hq=>?_,h.flInj⟩
      · rcases h.all j hj with h1 | ⟨p,hp,rfl⟩ | h1
        · exact .inl (znA h1)
        · rcases List.mem_cons.1 hp with rfl | hp
          · exact .inl (zwH (by rw[h.size]; exact hj))
          · exact .inr (.inl ⟨p,hp,rfl⟩)
        · exact .inr (.inr h1)
      · refine (h.unR p (List.mem_cons_of_mem _ hp)).imp (fun hx=>zpY hx fun e=>?_) id
        exact zgT hh.tail p hp (by rw[← e]; exact List.mem_cons_self ..)
      · exact zpY (h.unP q hq) fun e=>hin (e▸hq)
      · have hne:q≠i:=fun e=>hnf b (e▸hq)
        refine zo4 (h.flOk q b hq) (g.below.block b (.inr ⟨q,hq⟩)) ho hne znA fun ⟨B,hB⟩=>?_
        rcases List.mem_cons.1 hB with e | hB
        · cases e; exact absurd rfl hne
        · exact ⟨B,hB⟩
    unfold wpOp
    rw[ho]
    simp only
    rcases hst with ⟨hw,hwf,av,s1,hy,hs'⟩ | ⟨hw,hs'⟩
    · rw[wantedA_sound h.gam hX hw,if_pos rfl]
      exact .inl (zjy hL (by exact hC) hwf h.gam (fun t ht=>hX t (zoO ht)) hy fun v w' bt' g hav=>next g hav (eff_keeps hy) hs')
    · rw[wantedA_sound h.gam hX hw]
      simp only[Bool.false_eq_true,if_false]
      exact next h.gam zOq (Keep.refl _ _ _) hs'
  · cases hrun
theorem Inv.land (_hL:zdE P E.lay) (h:Inv C E ops k r listed pre ((i,A) :: rest) op Pd fl s X bt a w) {b:Nat} (hb:fl i=some b) :
    ∃ op' s' X' bt',Inv C E ops k r listed (i :: pre) rest op' Pd (zvu fl i none) s' X' bt' a w:=by
  have hf:=h.flOk i b hb
  obtain ⟨o,t,d,ti,vs,ho,hfo,hop,hd,hE,htm,hti,hheap,hz⟩:=hf.op
  have he:=zrM hfo
  obtain ⟨_,_,_,hg,_⟩:=zrL hfo
  obtain ⟨o3,ho3,hh⟩:=planOk_head h.plan
  rw[ho] at ho3; cases ho3
  have hin:i ∉ Pd:=fun hm=>hh.nin (h.pdPre i hm)
  have hA:∀ q∈A,Li listed q:=anc_listed h.closed (h.closed i o ho hf.li) (hh.anc he) (fun q hq=>by cases hq)
  have hrun:=h.run
  unfold runD at hrun
  rw[Array.getElem?_toList,ho] at hrun
  simp only[he] at hrun
  split at hrun
  · rename_i hsep
    obtain ⟨s',hst,hk⟩:=runOp_stp hrun
    rcases hst with ⟨hw,hwf,av,s1,hy,hs'⟩ | ⟨hw,_⟩
    · have hy':=hy
      simp only[evalOp,hop,hti,hd,Option.getD_some] at hy'
      cases hy'
      have hblt:b < w.heap.size:=by
        rcases Nat.lt_or_ge b w.heap.size with hlt | hge
        · exact hlt
        · rw[Array.getElem?_eq_none hge] at hheap; cases hheap
      have g1:=h.gam.land hb (fun j hj=>h.flInj j i b hj hb) hf.keep (zgE d) hz hheap
      have g2:=g1.set (t:=d) (a := .one (.lp (nm d) 0)) (v := .pointer (some ⟨b,0,none⟩)) (zcx (a := .lp (nm d) 0) (fun _=>⟨b,upd_same ..,rfl⟩) rfl)
      rw[htm] at g2
      rw[hd] at hs'
      refine ⟨_,s',_,_,⟨by rw[hs']; exact g2,h.kp,h.defers,fun t ht=>?_,h.size,fun j hj=>?_,fun p hp=>?_,h.unP,fun q hq=>List.mem_cons_of_mem _ (h.pdPre q hq),h.pdNodup,
        h.zxx ho he hh hA hsep (eff_keeps hy) (by rw[hd]; exact hs'),h.closed,⟨⟨o,ho,hh.preds⟩,h.preOk⟩,hh.tail,hk,fun q b' hq=>?_,fun q q' b' h1 h2=>?_⟩⟩
      · rcases h.hx t ht.1 with x | ⟨q,b',oq,h1,h2,h3⟩
        · exact .inl x
        · refine .inr ⟨q,b',oq,?_,h2,h3⟩
          have hne:q≠i:=fun e=>by
            subst e; rw[ho] at h2; cases h2; rw[hd] at h3; cases h3; exact ht.2 rfl
          rw[zbN _ _ hne]; exact h1
      · rcases h.all j hj with h1 | ⟨p,hp,rfl⟩ | h1
        · exact .inl h1
        · rcases List.mem_cons.1 hp with rfl | hp
          · exact .inl hf.li
          · exact .inr (.inl ⟨p,hp,rfl⟩)
        · exact .inr (.inr h1)
      · have hne:p.1≠i:=fun e=>zgT hh.tail p hp (by rw[e]; exact List.mem_cons_self ..)
        rw[zbN _ _ hne]
        exact h.unR p (List.mem_cons_of_mem _ hp)
      · have hne:q≠i:=fun e=>by subst e; rw[zei] at hq; cases hq
        rw[zbN _ _ hne] at hq
        have hf':=h.flOk q b' hq
        refine ⟨hf'.keep,hf'.li,?_,hf'.op⟩
        obtain ⟨B,hB⟩:=hf'.rest
        rcases List.mem_cons.1 hB with e | hB
        · cases e; exact absurd rfl hne
        · exact ⟨B,hB⟩
      · have n1:q≠i:=fun e=>by subst e; rw[zei] at h1; cases h1
        have n2:q'≠i:=fun e=>by subst e; rw[zei] at h2; cases h2
        rw[zbN _ _ n1] at h1; rw[zbN _ _ n2] at h2
        exact h.flInj q q' b' h1 h2
    · simp[wantedA,hg] at hw
  · cases hrun
theorem Inv.fly (hL:zdE P E.lay) (hF:floLay E.lay ops.toList=true) (h:Inv C E ops k r listed pre rest op Pd fl s X bt a w) (ho:ops[i]? = some o) (hfo:flo o=true) (hin:∃ A,(i,A)∈rest) (hr:i∈Region.ready .any ops listed)
    (hK:∀ fl' X' a' w',Inv C E ops k r (listed.setIfInBounds i true) pre rest op Pd fl' s X' bt a' w'→K a' w'):wpOp P ops Q i K a w:=by
  obtain ⟨hu,o2,ho2,hp⟩:=mem_ready.1 hr
  rw[ho] at ho2; cases ho2
  have hnf:=h.nfl hu
  have hni:fl i=none:=by
    cases hfi:fl i with
    | none=>rfl
    | some b=>exact absurd hfi (hnf b)
  obtain ⟨t,d,hop,hg,hd⟩:=zrL hfo
  obtain ⟨A,hA⟩:=hin
  have hE:=zqi h.plan _ hA o ho (zrM hfo) hfo
  have hiP:i ∉ Pd:=fun hm=>zgT h.plan _ hA (h.pdPre i hm)
  obtain ⟨ti,hti⟩:∃ ti,zdc t E.lay=some ti:=by
    have key : ∀ l:List Oper,floLay E.lay l=true→o∈l→∃ ti,zdc t E.lay=some ti:=by
      intro l
      induction l with
      | nil=>intro _ hm; cases hm
      | cons p l ih =>
        intro hl hm
        unfold floLay at hl
        rcases List.mem_cons.1 hm with rfl | hm
        · rw[hop] at hl
          simp only at hl
          split at hl
          · exact ⟨_,by assumption⟩
          · cases hl
        · split at hl
          · split at hl
            · exact ih hl hm
            · cases hl
          · exact ih hl hm
    exact key _ hF (by rw[Array.mem_toList_iff]; exact Array.mem_of_getElem? ho)
  obtain ⟨inf,d',z,hi1,hu1,hs1,hag,hz,hzo,_⟩:=hL t ti hti
  unfold wpOp
  rw[ho]
  simp only
  have hw:Region.wanted o (yielded ops a.tmps)=true:=by simp[Region.wanted,hg]
  rw[hw,if_pos rfl]
  left
  refine zfc (v := .pointer (some ⟨w.heap.size,0,none⟩)) (w':=w.alloc (.cells z.cells t)) ?_ ?_
  · simp[execOp,hop,Instr.alloc,zeroValue,typeInfo,hi1,hz,newVar,newRow]
  · have g':=h.gam.fly hni (.cells z.cells t) d (.pointer (some ⟨w.heap.size,0,none⟩))
    have hbel:=zb3 w (.cells z.cells t)
    have hkb:∀ x,C.keep x→x < w.heap.size:=fun x hx=>h.gam.kb x (.inl hx)
    rw[hd]
    refine hK (zvu fl i (some w.heap.size)) (fun u=>X u∨u=d) { a with tmps:=a.tmps.setIfInBounds d (.pointer (some ⟨w.heap.size,0,none⟩)) } _ ⟨g',h.kp.trans (Kp.of hbel hkb),h.defers,fun u hx=>?_,by simp[h.size],fun j hj=>?_,fun p hp=>?_,fun q hq=>?_,h.pdPre,h.pdNodup,h.stab,zmF h.closed ho hp,h.preOk,h.plan,h.run,fun q b hq=>?_,fun q q' b h1 h2=>?_⟩
    · rcases hx with hx | rfl
      · rcases h.hx u hx with x | ⟨q,b,oq,h1,h2,h3⟩
        · exact .inl x
        · refine .inr ⟨q,b,oq,?_,h2,h3⟩
          have hne:q≠i:=fun e=>hnf b (by rw[← e]; exact h1)
          rw[zbN _ _ hne]; exact h1
      · exact .inr ⟨i,_,o,zei ..,ho,hd⟩
    · rcases h.all j hj with h1 | h1 | h1
      · exact .inl (znA h1)
      · exact .inr (.inl h1)
      · exact .inr (.inr h1)
    · by_cases e:p.1=i
      · rw[e]; exact .inr ⟨_,zei ..⟩
      · rw[zbN _ _ e]
        exact (h.unR p hp).imp (fun hx=>zpY hx (Ne.symm e)) id
    · exact zpY (h.unP q hq) fun e=>hiP (e▸hq)
    · by_cases e:q=i
      · subst e
        rw[zei] at hq; cases hq
        refine ⟨fun hk=>Nat.lt_irrefl _ (hkb _ hk),zwH (by rw[h.size]; exact (Array.getElem?_eq_some_iff.1 ho).1),⟨A,hA⟩,o,t,d,ti,z.cells,ho,hfo,hop,hd,hE,?_,hti,heap_alloc w _,fun x=>zns hzo⟩
        show (a.tmps.setIfInBounds d _).setIfInBounds d _=_
        simp
      · rw[zbN _ _ e] at hq
        have:=zo4 (rest':=rest) (v := .pointer (some ⟨w.heap.size,0,none⟩)) (w':=w.alloc (.cells z.cells t)) (l':=listed.setIfInBounds i true) (a:=a) (h.flOk q b hq) (hbel.block b (h.gam.kb b (.inr ⟨q,hq⟩))) ho e znA id
        rw[hd] at this
        exact this
    · by_cases e1:q=i<;>by_cases e2:q'=i
      · rw[e1,e2]
      · subst e1
        rw[zei] at h1; cases h1
        rw[zbN _ _ e2] at h2
        have:=h.gam.kb _ (.inr ⟨q',h2⟩); omega
      · subst e2
        rw[zei] at h2; cases h2
        rw[zbN _ _ e1] at h1
        have:=h.gam.kb _ (.inr ⟨q,h1⟩); omega
      · rw[zbN _ _ e1] at h1; rw[zbN _ _ e2] at h2
        exact h.flInj q q' b h1 h2
def unl (l:Array Bool):Nat:=l.toList.countP fun b=>!b
theorem zvz {l:Array Bool} (h:Un l i):unl (l.setIfInBounds i true)+1=unl l:=by
 have hlt:=zRz h
 unfold Un at h
 simp[Array.getD,hlt] at h
 unfold unl
 rw[Array.toList_setIfInBounds]
 have hlt':i < l.toList.length:=by simpa using hlt
 have hget:l.toList[i]'hlt'=false:=by simpa using h
 have hpos:0 < l.toList.countP fun b=>!b:=List.countP_pos_iff.2 ⟨false,by rw[← hget]; exact List.getElem_mem hlt',rfl⟩
 have:=List.countP_set (p:=fun b=>!b) (a:=true) hlt'
 rw[hget] at this
 simp only[Bool.not_false,Bool.not_true,if_true,Bool.false_eq_true,if_false,Nat.add_zero] at this
 omega
theorem any_sound (hL : zdE P E.lay) (hC:zak P C.fix E.cons) (hF:floLay E.lay ops.toList=true) (hK:zQv C k r (fun a w=>Q .normal a w)):∀ (fuel:Nat) (rest:List (Nat × List Nat)) {listed:Array Bool} {pre:List Nat} {op:List (Nat × List Nat)} {Pd:List Nat} {fl:Nat→Option Nat} {s:St} {X:Nat→Prop} {bt:Nat→Option Value} {a:Act} {w:World},
    Inv C E ops k r listed pre rest op Pd fl s X bt a w→unl listed≤fuel→wpAny P .any ops Q fuel listed a w:=by
  intro fuel
  induction fuel with
  | zero =>
    intro rest
    induction rest with
    | nil =>
      intro listed pre op Pd fl s X bt a w h hf
      have none_un:∀ j,¬ Un listed j:=fun j hu=>by have:=zvz hu; omega
      refine ⟨?_,hK s bt a w ((h.gam.zs7 (fun i=>?_) h.kp).weaken fun t ht=>?_) h.defers h.run⟩
      · cases hr:Region.ready .any ops listed with
        | nil=>rfl
        | cons j l =>
          have hj:j∈Region.ready .any ops listed:=by rw[hr]; exact List.mem_cons_self ..
          exact absurd (mem_ready.1 hj).1 (none_un j)
      · cases hi:fl i with
        | none=>rfl
        | some b=>obtain ⟨A,hA⟩:=(h.flOk i b hi).rest; cases hA
      · rcases h.hx t ht with ⟨q,hq,_⟩ | ⟨q,b,_,hq,_⟩
        · exact absurd (h.unP q hq) (none_un q)
        · obtain ⟨A,hA⟩:=(h.flOk q b hq).rest; cases hA
    | cons p rest ihr =>
      intro listed pre op Pd fl s X bt a w h hf
      have none_un:∀ j,¬ Un listed j:=fun j hu=>by have:=zvz hu; omega
      obtain ⟨i,A⟩:=p
      rcases h.unR (i,A) (List.mem_cons_self ..) with hu | ⟨b,hb⟩
      · exact absurd hu (none_un i)
      · obtain ⟨op',s',X',bt',h'⟩:=h.land hL hb
        exact ihr h' hf
  | succ fuel ih =>
    intro rest
    have core : ∀ {rest:List (Nat × List Nat)} {listed:Array Bool} {pre:List Nat} {op:List (Nat × List Nat)} {Pd:List Nat} {fl:Nat→Option Nat} {s:St} {X:Nat→Prop} {bt:Nat→Option Value} {a:Act} {w:World},
        Inv C E ops k r listed pre rest op Pd fl s X bt a w→unl listed≤fuel+1→(∀ i A l,rest=(i,A) :: l→fl i=none∧∃ o,ops[i]? = some o∧early o=false)→wpAny P .any ops Q (fuel+1) listed a w:=by
      intro rest listed pre op Pd fl s X bt a w h hf hlate
      refine ⟨fun hr=>?_,fun i hi=>?_⟩
      · have hpre:=zoh h.size hr h.preOk
        have hPd:Pd=[]:=by
          cases hPd:Pd with
          | nil=>rfl
          | cons q l =>
            have hq:q∈Pd:=by rw[hPd]; exact List.mem_cons_self ..
            exact absurd (hpre q (h.pdPre q hq)) (ziD (h.unP q hq))
        have hrest:rest=[]:=by
          cases hrest:rest with
          | nil=>rfl
          | cons p l =>
            obtain ⟨i,A⟩:=p
            subst hrest
            obtain ⟨hfi,_⟩:=hlate i A l rfl
            obtain ⟨o,ho,hh⟩:=planOk_head h.plan
            have hun:Un listed i:=(h.unR (i,A) (List.mem_cons_self ..)).resolve_right fun ⟨b,hb⟩=>by rw[hfi] at hb; cases hb
            have:i∈Region.ready .any ops listed:=mem_ready.2 ⟨hun,o,ho,fun e he hb=>hpre _ (hh.preds e he hb)⟩
            rw[hr] at this; cases this
        subst hrest
        refine hK s bt a w ((h.gam.zs7 (fun i=>?_) h.kp).weaken fun t ht=>?_) h.defers h.run
        · cases hi:fl i with
          | none=>rfl
          | some b=>obtain ⟨A,hA⟩:=(h.flOk i b hi).rest; cases hA
        · rcases h.hx t ht with ⟨q,hq,_⟩ | ⟨q,b,_,hq,_⟩
          · rw[hPd] at hq; cases hq
          · obtain ⟨A,hA⟩:=(h.flOk q b hq).rest; cases hA
      · obtain ⟨hu, o, ho,hp⟩:=mem_ready.1 hi
        have hset:=zvz hu
        by_cases hin:i∈Pd
        · exact h.pend hL hC hin hi fun X' bt' a' w' h'=>ih _ h' (by omega)
        · rcases h.all i (Array.getElem?_eq_some_iff.1 ho).1 with h1 | ⟨p,hpm,rfl⟩ | h1
          · exact absurd h1 (ziD hu)
          · cases hrest:rest with
            | nil=>rw[hrest] at hpm; cases hpm
            | cons p0 l =>
              obtain ⟨j,A⟩:=p0
              subst hrest
              obtain ⟨hfj,oj,hoj,hel⟩:=hlate j A l rfl
              obtain ⟨oj2,hoj2,hh⟩:=planOk_head h.plan
              rw[hoj] at hoj2; cases hoj2
              rcases List.mem_cons.1 hpm with rfl | h1
              · exact h.late hL hC hoj hel hi fun op' s' X' bt' a' w' h'=>ih _ h' (by omega)
              · by_cases hfo:flo o=true
                · exact h.fly hL hF ho hfo ⟨p.2,hpm⟩ hi fun fl' X' a' w' h'=>ih _ h' (by omega)
                · exfalso
                  obtain ⟨o',ho',hx⟩:=hh.forced hel p h1
                  rw[ho] at ho'; cases ho'
                  rcases hx with hx | ⟨e,he,hb,hon⟩
                  · exact hfo hx
                  have hl:=hp e he hb
                  rcases hon with h2 | ⟨q,hq,h2,oq,hoq,hnq⟩
                  · rw[h2] at hl
                    rcases h.unR (j,A) (List.mem_cons_self ..) with h3 | ⟨b,h3⟩
                    · exact ziD h3 hl
                    · rw[hfj] at h3; cases h3
                  · rw [h2] at hl
                    rcases h.unR q (List.mem_cons_of_mem _ hq) with h3 | ⟨b,h3⟩
                    · exact ziD h3 hl
                    · obtain ⟨o3,t3,d3,i3,vs3,e1,e2,_⟩:=(h.flOk q.1 b h3).op
                      rw[hoq] at e1; cases e1
                      rw[hnq] at e2; cases e2
          · exact absurd h1 hin
    induction rest with
    | nil=>intro listed pre op Pd fl s X bt a w h hf; exact core h hf fun i A l e=>by cases e
    | cons p rest ihr =>
      intro listed pre op Pd fl s X bt a w h hf
      obtain ⟨i,A⟩:=p
      cases hfi:fl i with
      | some b =>
        obtain ⟨op',s',X',bt',h'⟩:=h.land hL hfi
        exact ihr h' hf
      | none =>
        obtain ⟨o,ho,hh⟩:=planOk_head h.plan
        cases he:early o with
        | true =>
          obtain ⟨op',s',X',h'⟩:=h.ahead ho he
          exact ihr h' hf
        | false =>
          refine core h hf fun j B l e=>?_
          cases e; exact ⟨hfi,o,ho,he⟩
theorem zqh:∀ {rest:List (Nat × List Nat)} {pre:List Nat},planOk ops pre rest=true→∀ p∈rest,p.1 < ops.size
  | (i,A) :: rest,pre,h,p,hp=>by
    obtain ⟨o,ho,hh⟩:=planOk_head h
    rcases List.mem_cons.1 hp with rfl | hp
    · exact (Array.getElem?_eq_some_iff.1 ho).1
    · exact zqh hh.tail p hp
theorem zPj {n j:Nat}:¬ Li (Array.replicate n false) j:=by
 unfold Li
 rcases Nat.lt_or_ge j n with h | h
 ·simp[Array.getD,h]
 ·simp[Array.getD,Nat.not_lt.2 h]
theorem zO0 {n j:Nat} (h:j < n):Un (Array.replicate n false) j:=by
 unfold Un; simp[Array.getD,h]
theorem zBx (hL:zdE P E.lay) (hC:zak P C.fix E.cons) (hm:P.follows .mixedOrders=true) {plan:List (Nat × List Nat)} (hp:zn5 ops plan=true) (g:Gam C s NoX bt a.tmps w) (hd:a.defers=[])
  (h:runD E ops.toList plan [] s k=some r) (hF:floLay E.lay ops.toList=true) (hK:zQv C k r (fun a w=>Q .normal a w)) (id:Nat):(Code.region id ops true).wp P Q a w:=by
 unfold zn5 at hp
 simp only[Bool.and_eq_true] at hp
 obtain ⟨h1,h2,h3⟩:=hp
 have hinv:Inv C E ops k r (Array.replicate ops.size false) [] plan [] [] (fun _=>none) s NoX bt a { w with drawn:=w.drawn+1 }:=by
  have g1:=g.grown (w':={ w with drawn:=w.drawn+1 }) ⟨rfl,rfl,rfl,Nat.le_refl _,fun _ _=>rfl⟩
  refine ⟨g1.zDS,g1.below,hd,fun t ht=>ht.elim,by simp,fun j hj=>?_,fun p hp => .inl (zO0 (zqh h1 p hp)),fun q hq=>?_,fun q hq=>?_,List.nodup_nil,fun q hq=>?_,fun j o ho hl=>absurd hl zPj,trivial,h1,h,fun q b hq=>(by cases hq),fun q q' b hq=>(by cases hq)⟩
  ·obtain ⟨p,hp,he⟩:=List.any_eq_true.1 (List.all_eq_true.1 h3 j (List.mem_range.2 hj))
   exact .inr (.inl ⟨p,hp,(Nat.eq_of_beq_eq_true he).symm⟩)
  ·cases hq
  ·cases hq
  ·cases hq
 exact wp_region_any hm (any_sound hL hC hF hK ops.size plan hinv (by
  have:unl (Array.replicate ops.size false)≤(Array.replicate ops.size false).toList.length:=List.countP_le_length
  simpa using this))
end
end Go.Di
open Go.RowKit (Below)
namespace Go.Di
section
variable {P:Program} {C:Bs} {w w':World} {s s':St} {X:Nat→Prop} {β':Nat→Option Value} {a:Act} {o:Oper} {tm:Array Value} {β:Type} {bt:Nat→Option Value}
 {K:Act→World→Prop} {Q:Exit→Act→World→Prop} {E:Env} {k:St→Option β} {r:β}
/-! ### Texts -/
def zxv:Ex→Exit
 | .normal => .normal
 | .exit i => .exit i
 | .ret => .ret
def zSs (C:Bs) (k:Ex→St→Option β) (r:β) (Q:Exit→Act→World→Prop):Prop:=∀ e s bt a w,Gam C s NoX bt a.tmps w→a.defers=[]→k e s=some r→Q (zxv e) a w
def zaR (P:Program) (F:Nat→Option (Array Value→Prop)) (m:LM) (body:Code):Prop:=∀ (C:Bs) (s:St) (bt:Nat→Option Value) (a:Act) (w:World) (y:m.ρ),C.fix=F→Gam C s NoX bt a.tmps w→a.defers=[]→m.run s=some y →
 ∀ Q:Exit→Act→World→Prop,(∀ bt a w,Gam C (m.out y).2 NoX bt a.tmps w→a.defers=[]→Q (zxv (m.out y).1) a w)→(Code.loop body).wp P Q a w
def zad:Code→List Code
 | .seq a b=>zad a++zad b
 | .cond _ a b=>zad a++zad b
 | .block _ a=>zad a
 | .loop a=>[a]
 | _=>[]
theorem zQs {a b:Bool} (h:(a && b)=true):a=true:=by cases a<;>simp_all
theorem zQr {a b:Bool} (h:(a && b)=true):b=true:=by cases a<;>simp_all
def zhE (plans:List (Nat × List (Nat × List Nat))):Code→Bool
  | .region id ops true=>match zkf id plans with
    | some p=>zn5 ops p
    | none=>true
  | .seq a b=>zhE plans a && zhE plans b
  | .cond _ a b=>zhE plans a && zhE plans b
  | .block _ a=>zhE plans a
  | .loop a=>zhE plans a
  | _=>true
theorem ze8 (hm:P.follows .mixedOrders=true) (hL:zdE P E.lay) (hC:zak P C.fix E.cons):∀ (c:Code) {s:St} {bt:Nat→Option Value} {a:Act} {w:World} {k:Ex→St→Option β} {Q:Exit→Act→World→Prop},
    zhE E.plans c=true→(∀ body∈zad c,∀ m,zlk (keyOf body) E.loops=some m→zaR P C.fix m body)→Gam C s NoX bt a.tmps w→a.defers=[]→evalC E c s k=some r→zSs C k r Q→c.wp P Q a w
  | .skip,s,bt,a,w,k,Q,hD,_,g,hd,h,hK=>wp_skip (hK .normal s bt a w g hd h)
  | .region id ops false,s,bt,a,w,k,Q,hD,_,g,hd,h,hK =>
    wp_region_list (znx hL hC ops.toList g hd h fun s' bt' a' w' g' hd' h'=>hK .normal s' bt' a' w' g' hd' h')
  | .region id ops true,s,bt,a,w,k,Q,hD,_,g,hd,h,hK=>by
    have h':(match zkf id E.plans,floLay E.lay ops.toList with
      | some p,true=>runD E ops.toList p [] s fun s=>k .normal s
      | _,_=>none)=some r:=h
    have hD':(match zkf id E.plans with
      | some p=>zn5 ops p
      | none=>true)=true:=hD
    cases hp:zkf id E.plans with
    | none=>rw[hp] at h'; cases h'
    | some p =>
      rw[hp] at h' hD'
      cases hF:floLay E.lay ops.toList with
      | false=>rw[hF] at h'; cases h'
      | true =>
      rw[hF] at h'
      exact zBx hL hC hm hD' g hd h' hF (fun s' bt' a' w' g' hd' h'=>hK .normal s' bt' a' w' g' hd' h') id
  | .seq x y,s,bt,a,w,k,Q,hD,hl,g,hd,h,hK=>by
    refine wp_seq (ze8 hm hL hC x (zQs hD) (fun b hb=>hl b (List.mem_append_left _ hb)) g hd h fun e s' bt' a' w' g' hd' h'=>?_)
    cases e with
    | normal=>exact ze8 hm hL hC y (zQr hD) (fun b hb=>hl b (List.mem_append_right _ hb)) g' hd' h' hK
    | exit i=>exact hK (.exit i) s' bt' a' w' g' hd' h'
    | ret=>exact hK .ret s' bt' a' w' g' hd' h'
  | .cond (.tmp t) x y,s,bt,a,w,k,Q,hD,hl,g,hd,h,hK=>by
    obtain ⟨c,s1,hget,g1,hk⟩:=zld g h
    have hv:a.eval (.tmp t) = .bool c:=by
      have hlt:=(Array.getElem?_eq_some_iff.1 hget).1
      have:=(Array.getElem?_eq_some_iff.1 hget).2
      simp[Act.eval,Array.getD,hlt,this]
    refine wp_cond hv ?_
    cases c with
    | true=>exact ze8 hm hL hC x (zQs hD) (fun b hb=>hl b (List.mem_append_left _ hb)) g1 hd hk hK
    | false=>exact ze8 hm hL hC y (zQr hD) (fun b hb=>hl b (List.mem_append_right _ hb)) g1 hd hk hK
  | .cond (.const v) x y,s,bt,a,w,k,Q,hD,hl,g,hd,h,hK=>by cases h
  | .cond (.global v) x y,s,bt,a,w,k,Q,hD,hl,g,hd,h,hK=>by cases h
  | .cond (.func v) x y,s,bt,a,w,k,Q,hD,hl,g,hd,h,hK=>by cases h
  | .block id x,s,bt,a,w,k,Q,hD,hl,g,hd,h,hK=>by
    refine wp_block (ze8 hm hL hC x hD hl g hd h fun e s' bt' a' w' g' hd' h'=>?_)
    cases e with
    | normal=>exact hK .normal s' bt' a' w' g' hd' h'
    | exit i =>
      cases hb:Nat.beq i id with
      | true =>
        simp only[hb] at h'
        have:i=id:=by simpa using hb
        simp only[zxv,Exit.inBlock,this,if_true]
        exact hK .normal s' bt' a' w' g' hd' h'
      | false =>
        simp only[hb] at h'
        have:i≠id:=by intro e; subst e; simp at hb
        simp only[zxv,Exit.inBlock,this,if_false]
        exact hK (.exit i) s' bt' a' w' g' hd' h'
    | ret=>exact hK .ret s' bt' a' w' g' hd' h'
  | .loop x,s,bt,a,w,k,Q,hD,hl,g,hd,h,hK=>by
    have h':(match zlk (keyOf x) E.loops with
      | some m=>(m.run s).bind fun r=>m.elim r k
      | none=>none)=some r:=h
    cases hm:zlk (keyOf x) E.loops with
    | none=>rw[hm] at h'; cases h'
    | some m =>
      rw[hm] at h'
      cases hr:m.run s with
      | none=>simp[hr] at h'
      | some y =>
        simp[hr,m.elim_eq] at h'
        exact hl x (by simp[zad]) m hm C s bt a w y rfl g hd hr Q fun bt' a' w' g' hd'=>hK _ _ bt' a' w' g' hd' h'
  | .exit i,s,bt,a,w,k,Q,hD,_,g,hd,h,hK=>wp_exit (hK (.exit i) s bt a w g hd h)
  | .ret,s,bt,a,w,k,Q,hD,_,g,hd,h,hK=>wp_ret (hK .ret s bt a w g hd h)
  | .rangeFunc ..,s,bt,a,w,k,Q,hD,_,g,hd,h,hK=>by cases h
  | .scope ..,s,bt,a,w,k,Q,hD,_,g,hd,h,hK=>by cases h
  | .label ..,s,bt,a,w,k,Q,hD,_,g,hd,h,hK=>by cases h
  | .goto ..,s,bt,a,w,k,Q,hD,_,g,hd,h,hK=>by cases h
  | .refuse ..,s,bt,a,w,k,Q,hD,_,g,hd,h,hK=>by cases h
end
end Go.Di
open Go.RowKit (Below)
namespace Go.Di
section
variable {P:Program} {C:Bs} {w w':World} {s s':St} {X:Nat→Prop} {bt:Nat→Option Value} {tm:Array Value}
def CellIs (g:Bool) (v:Value) (j:Nat) (u:Value):Prop:=match g with
 | true=>∃ vs,v = .agg vs∧vs[j]? = some u
 | false=>j=0∧v=u
theorem zdF.zxG {x:Cx} {a:A1}:∀ {l:List A1} {vs:List Value} {j:Nat} {u:Value},zdF x l vs→vs[j]? = some u→A1Ok x a u→u.oneCell'=true→zdF x (zxG j a l) vs
 | [],[],j,u,_,h,_,_=>by simp at h
 | b :: l,v :: vs,0,u,⟨_,_,h3⟩,h,ha,h1=>by simp at h; subst h; exact ⟨ha,h1,h3⟩
 | b :: l,v :: vs,j+1,u,⟨k1,k2,h3⟩,h,ha,h1=>⟨k1,k2,h3.zxG (by simpa using h) ha h1⟩
 | [],_ :: _,_,_,h,_,_,_=>h.elim
 | _ :: _,[],_,_,h,_,_,_=>h.elim
theorem zGy {x:Cx} {g:Bool} {l:List A1} {v:Value} {j:Nat} {b:A1} (h:zbn x (.v g l) v) (hj:l[j]? = some b) (hb:b ≠ .bot):∃ u,CellIs g v j u∧A1Ok x b u∧u.oneCell'=true:=by
  cases g with
  | true =>
    obtain ⟨vs,rfl,h2⟩:=h
    obtain ⟨u,h3,h4,h5⟩:=h2.get hj
    exact ⟨u,⟨vs,rfl,by simpa using h3⟩,h4,h5⟩
  | false =>
    obtain ⟨a,rfl,h2,h3⟩:=h
    cases j with
    | zero =>
      simp at hj; subst hj
      exact ⟨v,⟨rfl,rfl⟩,h2,h3.resolve_left hb⟩
    | succ j=>simp at hj
theorem zxe {x:Cx} {g:Bool} {l:List A1} {v:Value} {j:Nat} {a:A1} {u:Value} (h:zbn x (.v g l) v) (hc:CellIs g v j u) (ha:A1Ok x a u) (h1:u.oneCell'=true) (hl:j < l.length):zbn x (.v g (zxG j a l)) v:=by
  cases g with
  | true =>
    obtain ⟨vs,rfl,h2⟩:=h
    obtain ⟨vs',e,h3⟩:=hc
    cases e
    exact ⟨vs,rfl,h2.zxG (by simpa using h3) ha h1⟩
  | false =>
    obtain ⟨b,rfl,h2,h3⟩:=h
    obtain ⟨rfl,rfl⟩:=hc
    exact ⟨a,rfl,ha,.inr h1⟩
theorem Gam.zRD (g:Gam C s NoX bt tm w) {t:Nat} {a:AV} (ha:zbn (cx C s bt w) a (tm.getD t undef)):Gam C (s.set t a) NoX bt tm w:=by
 have:=g.zrl (t:=t) ha
 rwa [zxF rfl] at this
theorem zht (n:Nat):∀ l:List A1,(zeQ n l).length=l.length
 | []=>rfl
 | _ :: r=>by simp[zeQ,zht n r]
theorem zrQ {n:Nat} {e:Ent} {t:Nat} {g:Bool} {l:List A1} (h:s.env[t]? = some (.v g l)):(s.push n e).env[t]? = some (.v g (zeQ n l)):=by
 show (zrz n s.env)[t]? = _
 rw[zgp,h]; rfl
theorem Gam.adoptS (g:Gam C s NoX bt tm w) (t j n:Nat) (hn:n % 64≠63) (u:ST):∃ bt',Gam C (Go.Di.adoptS t j n u s) NoX bt' tm w:=by
  unfold Go.Di.adoptS
  split
  · rename_i gg l hs
    split
    · rename_i hj
      have hne:(AV.v gg l)≠AV.bot:=by
        intro e
        cases e
        cases j<;>simp at hj
      have hs':=get_some hs hne
      obtain ⟨v0,k1,⟨ad,rfl⟩,k3⟩:=zGy (g.env t _ (fun h=>h) hs') hj (by intro e; cases e)
      have g1:Gam C (s.push n (.arr false u [])) NoX (upd bt n (.slice ad 0 0)) tm w :=
        g.ziz (Below.refl _ _) (hnm:=hn) (fun b hb=>by cases ad<;>simp[zaJ] at hb) fun _ => .inl ⟨rfl,ad,rfl⟩
      exact ⟨_,g1.zRD (zxe (g1.env t _ (fun h=>h) (zrQ hs')) k1 (fun _ _ _ _=>upd_same bt n _) k3 (by rw[zht]; exact (List.getElem?_eq_some_iff.1 hj).1))⟩
    · rename_i m k hj
      split
      · rename_i ww xs hm hl
        have hm:m % 64≠63:=by intro e; rw[e] at hm; cases hm
        have hne:(AV.v gg l)≠AV.bot:=by
          intro e
          cases e
          cases j<;>simp at hj
        have hs':=get_some hs hne
        obtain ⟨v0,k1,k2,k3⟩:=zGy (g.env t _ (fun h=>h) hs') hj (by intro e; cases e)
        obtain ⟨q1,a0,m0,cap,q2,q3,rfl⟩:=k2 false ww xs hl
        have hk:k≤xs.length:=by omega
        have hv:(if cap=0 then a0 else a0.map (·.add (0 * ww.size)))=a0:=by
          split
          · rfl
          · cases a0 with
            | none=>rfl
            | some a0=>simp[Addr.add]
        rw[hv] at k1 k3
        have q2':bt m=some (.slice a0 m0 cap):=q2
        have htop:zaJ (.slice a0 k (cap - 0))=zaJ (.slice a0 m0 cap):=by
          cases a0<;>cases cap<;>rfl
        have hfr:St.zbz [m] s=s.free m:=rfl
        have g1 : Gam C (s.push m (.arr false ww (xs.take k))) NoX (upd bt m (.slice a0 k (cap - 0))) tm w:=by
          refine Gam.call g (K:=[m]) (l:=[(m,.arr false ww (xs.take k))]) (by simp[names]) (fun n e' h=>?_) (fun n fr t ys h _=>by simp at h) (fun q hq=>?_) (fun _ _ _=>rfl) (fun _ _ _ _ _ _ _ _ _ _=>rfl) (Nat.le_refl _) (Kp.refl _ _)
            (fun n e v b h1 h2 h3 h4=>?_) (fun n n' e f v u b h1 h2 h3 h4 h5 h6 h7 h8=>?_) (fun n h1 _=>?_) (fun n h1=>?_) fun hle n e v h1 h2=>?_
          · simp at h; exact .inl (by simp[h.1])
          · have:q≠m:=by
              rcases hq with hq | hq
              · simpa [names] using hq
              · simpa using hq
            exact zaO _ _ this
          · simp at h1; obtain ⟨rfl,rfl⟩:=h1
            rw[upd_same] at h2; cases h2
            rw[htop] at h4
            have hT:Top (fun n=>look n s.ents) bt b:=⟨n,_,_,hl,rfl,q2',h4⟩
            exact ⟨(g.fresh b hT).2,.inr ⟨hT,fun m' e0 u k1 k2 k3 k4 => .inl (by
              have:=g.uniq n m' _ _ _ _ b hl k1 rfl k2 q2' k3 h4 k4
              simp[this])⟩⟩
          · simp at h1 h2; rw[h1.1,h2.1]
          · simp[names] at h1; subst h1; exact hm
          · simp[names] at h1; subst h1; rw[upd_same]; rfl
          · simp at h1; obtain ⟨rfl,rfl⟩:=h1
            rw[upd_same] at h2; cases h2
            have hlt:(xs.take k).length=k:=by rw[List.length_take]; omega
            rcases g.ents n _ _ hl q2' with ⟨h0,ad,h1⟩ | ⟨g',cap',cur,T,h1,h2,h3,h4,h5,h6,h7⟩
            · subst h0
              cases h1
              simp at hk; subst hk
              exact .inl ⟨rfl,_,rfl⟩
            · cases h1
              refine .inr ⟨g',cap,cur,T,by rw[hlt]; rfl,h2,by omega,h4,h5,h6,fun i c hc=>?_⟩
              have hc':(flat ww xs)[i]? = some c:=by
                have hsplit:flat ww xs=flat ww (xs.take k)++flat ww (xs.drop k):=by
                  simp only[flat,← List.flatMap_append,List.take_append_drop]
                rw[hsplit,List.getElem?_append_left (List.getElem?_eq_some_iff.1 hc).1]; exact hc
              obtain ⟨u,e1,e2⟩:=h7 i c hc'
              exact ⟨u,e1,hle.rd e2⟩
        exact ⟨_,g1.zRD (zxe (g1.env t _ (fun h=>h) (zrQ hs')) k1 (fun _ _ _ _=>upd_same bt m _) k3 (by rw[zht]; exact (List.getElem?_eq_some_iff.1 hj).1))⟩
      · exact ⟨bt,g⟩
    · exact ⟨bt,g⟩
  · exact ⟨bt,g⟩
theorem Gam.adoptB (g:Gam C s NoX bt tm w) (b j n:Nat) (hn:n % 64≠63) (u:ST):∃ bt',Gam C (Go.Di.adoptB b j n u s) NoX bt' tm w:=by
  unfold Go.Di.adoptB
  split
  · rename_i l hl
    split
    · rename_i hj
      split
      · exact ⟨bt,g⟩
      · rename_i hb
        have hb:b≠n:=by intro e; subst e; simp at hb
        have hbs:=g.bs b _ hl
        cases hv:bt b with
        | none=>rw[hv] at hbs; cases hbs
        | some v =>
          obtain ⟨b0,vs,T,e1,e2,e3⟩:=g.ents b _ v hl hv
          obtain ⟨v0,k1,⟨ad,rfl⟩,k3⟩:=e3.get hj
          have g1:Gam C (s.push n (.arr false u [])) NoX (upd bt n (.slice ad 0 0)) tm w :=
            g.ziz (Below.refl _ _) (hnm:=hn) (fun b hb=>by cases ad<;>simp[zaJ] at hb) fun _ => .inl ⟨rfl,ad,rfl⟩
          have hl1:look b (s.push n (.arr false u [])).ents=some (.box (zeQ n l)):=by
            show look b (put n (.arr false u []) (s.free n).ents)=_
            rw[zcg,if_neg hb,zb0,if_neg hb,hl]; rfl
          have hv1:upd bt n (.slice ad 0 0) b=some v:=by rw[zaO _ _ hb]; exact hv
          obtain ⟨b1,vs1,T1,f1,f2,f3⟩:=g1.ents b _ v hl1 hv1
          rw[e1] at f1; cases f1
          have f2':w.heap[b0]? = some (.cells vs1 T1 (0,0)):=f2
          have e2':w.heap[b0]? = some (.cells vs T (0,0)):=e2
          rw[e2'] at f2'; cases f2'
          refine ⟨_,g1.write hl1 (.inl ⟨_,_,rfl,rfl⟩) hv1 (fun _ _=>rfl) rfl (Kp.refl _ _) fun hle=>⟨b0,vs,T,e1,e2,?_⟩⟩
          have hset:zdF (cx C (s.push n (.arr false u [])) (upd bt n (.slice ad 0 0)) w) (zxG j (.own n) (zeQ n l)) vs.toList:=f3.zxG k1 (fun _ _ _ _=>upd_same bt n _) k3
          exact hset.conv fun a _ v ha=>hle.a1 (by cases a<;>first | trivial | exact ⟨trivial,trivial⟩) ha
    · exact ⟨bt,g⟩
  · exact ⟨bt,g⟩
theorem Gam.zDF (g:Gam C s NoX bt tm w) {n:Nat} (hn:n % 64≠63) {u:ST} (hu:u.zfr=true) (ad:Option Addr):Gam C (s.push n (.deep false u [])) NoX (upd bt n (.tuple ((Value.slice ad 0 0 :: []):List Value).toArray)) tm w:=by
 have ht:([Value.slice ad 0 0]:List Value).flatMap zby=[]:=by cases ad<;>rfl
 exact g.zj6 (K:=[]) hn (fun k hk=>by cases hk) (fun _ _ _=>rfl) (Nat.le_refl _) (Kp.refl _ _) (fun b hb=>by
  have hb:b∈([Value.slice ad 0 0]:List Value).flatMap zby:=hb
  rw[ht] at hb; cases hb) fun y _=>⟨_,[],rfl,by simp,by rw[ht]; exact .nil,hu,.inl ⟨rfl,ad,rfl⟩⟩
theorem Gam.adoptSD (g:Gam C s NoX bt tm w) (t j n:Nat) (hn:n % 64≠63) (u:ST) (hu:u.zfr=true):∃ bt',Gam C (Go.Di.adoptSD t j n u s) NoX bt' tm w:=by
  unfold Go.Di.adoptSD
  split
  · rename_i gg l hs
    split
    · rename_i hj
      have hne:(AV.v gg l)≠AV.bot:=by
        intro e
        cases e
        cases j<;>simp at hj
      have hs':=get_some hs hne
      obtain ⟨v0,k1,⟨ad,rfl⟩,k3⟩:=zGy (g.env t _ (fun h=>h) hs') hj (by intro e; cases e)
      have g1:=g.zDF hn hu ad
      exact ⟨_,g1.zRD (zxe (g1.env t _ (fun h=>h) (zrQ hs')) k1 (a := .dp n) (fun _=>⟨_,upd_same bt n _,rfl⟩) k3 (by rw[zht]; exact (List.getElem?_eq_some_iff.1 hj).1))⟩
    · exact ⟨bt,g⟩
  · exact ⟨bt,g⟩
theorem Gam.adoptBD (g:Gam C s NoX bt tm w) (b j n:Nat) (hn:n % 64≠63) (u:ST) (hu:u.zfr=true):∃ bt',Gam C (Go.Di.adoptBD b j n u s) NoX bt' tm w:=by
  unfold Go.Di.adoptBD
  split
  · rename_i l hl
    split
    · rename_i hj
      split
      · exact ⟨bt,g⟩
      · rename_i hb
        have hb:b≠n:=by intro e; subst e; simp at hb
        have hbs:=g.bs b _ hl
        cases hv:bt b with
        | none=>rw[hv] at hbs; cases hbs
        | some v =>
          obtain ⟨b0,vs,T,e1,e2,e3⟩:=g.ents b _ v hl hv
          obtain ⟨v0,k1,⟨ad,rfl⟩,k3⟩:=e3.get hj
          have g1:=g.zDF hn hu ad
          have hl1:look b (s.push n (.deep false u [])).ents=some (.box (zeQ n l)):=by
            show look b (put n (.deep false u []) (s.free n).ents)=_
            rw[zcg,if_neg hb,zb0,if_neg hb,hl]; rfl
          have hv1:upd bt n (.tuple ((Value.slice ad 0 0 :: []):List Value).toArray) b=some v:=by rw[zaO _ _ hb]; exact hv
          obtain ⟨b1,vs1,T1,f1,f2,f3⟩:=g1.ents b _ v hl1 hv1
          rw[e1] at f1; cases f1
          have f2':w.heap[b0]? = some (.cells vs1 T1 (0,0)):=f2
          have e2':w.heap[b0]? = some (.cells vs T (0,0)):=e2
          rw[e2'] at f2'; cases f2'
          refine ⟨_,g1.write hl1 (.inl ⟨_,_,rfl,rfl⟩) hv1 (fun _ _=>rfl) rfl (Kp.refl _ _) fun hle=>⟨b0,vs,T,e1,e2,?_⟩⟩
          have hset:zdF (cx C (s.push n (.deep false u [])) (upd bt n (.tuple ((Value.slice ad 0 0 :: []):List Value).toArray)) w) (zxG j (.dp n) (zeQ n l)) vs.toList:=f3.zxG k1 (a := .dp n) (fun _=>⟨_,upd_same bt n _,rfl⟩) k3
          exact hset.conv fun a _ v ha=>hle.a1 (by cases a<;>first | trivial | exact ⟨trivial,trivial⟩) ha
    · exact ⟨bt,g⟩
  · exact ⟨bt,g⟩
theorem Gam.adopt1 (g:Gam C s NoX bt tm w) (p:Pos) (n:Nat) (u:ST):∃ bt',Gam C (Go.Di.adopt1 p n u s) NoX bt' tm w:=by
 unfold Go.Di.adopt1
 split
 ·exact ⟨bt,g⟩
 ·rename_i hn
  have hn:n % 64≠63:=by intro e; rw[e] at hn; cases hn
  split
  ·exact g.adoptS _ _ n hn u
  ·exact g.adoptB _ _ n hn u
  ·split
   ·rename_i hu; exact g.adoptSD _ _ n hn u hu
   ·exact ⟨bt,g⟩
  ·split
   ·rename_i hu; exact g.adoptBD _ _ n hn u hu
   ·exact ⟨bt,g⟩
theorem Gam.znJ:∀ {l:List (Pos × Nat × ST)} {s:St} {bt:Nat→Option Value},Gam C s NoX bt tm w→∃ bt',Gam C (Go.Di.znJ l s) NoX bt' tm w
  | [],s,bt,g=>⟨bt,g⟩
  | (p,n,u) :: r,s,bt,g=>by
    obtain ⟨bt1,g1⟩:=g.adopt1 p n u
    exact g1.znJ
end
end Go.Di
open Go.RowKit (Below)
namespace Go.Di
section
variable {P:Program} {C:Bs} {w w':World} {s s':St} {X:Nat→Prop} {bt:Nat→Option Value} {a:Act} {lay:List (TypeId × TI)} {args tm:Array Value} {w0:World}
def zsW (tmps:Array Value):ResultVar→Sem Value
 | .tmp t=>pure (tmps.getD t undef)
 | .cell a t=>do loadVar t (← asAddr (tmps.getD a undef))
theorem resVal_ok (hL:zdE P lay) (g:Gam C s NoX bt a.tmps w) {r:ResultVar} {p:Bool × List A1} (h:resVal lay s r=some p):∃ v,(zsW a.tmps r).run P w = .ok v w∧VOk (cx C s bt w) p.1 p.2 v:=by
  have op:∀ t,zbn (cx C s bt w) (s.get t) (a.tmps.getD t undef):=fun t=>zmv g (x := .tmp t) (fun _ _ hx=>hx)
  cases r with
  | tmp t =>
    simp only[resVal] at h
    split at h
    · rename_i b l hg
      cases h
      have:=op t
      rw[hg] at this
      exact ⟨_,rfl,this⟩
    · cases h
  | cell t T =>
    simp only[resVal] at h
    split at h
    · rename_i i n off hi hg
      split at h
      · rename_i l hl
        split at h
        · rename_i c hw
          cases h
          have hv:=op t
          rw[hg] at hv
          obtain ⟨a1,e1,e2,_⟩:=hv; cases e1
          obtain ⟨b,vs,T',hb,hv,hh,hok⟩:=zD5 g hl e2
          obtain ⟨v,hr,hv'⟩:=zoR (x:=cx C s bt w) (hL T i hi) (b:=b) (q:=0) (fun j a1 ha=>by
            obtain ⟨u,hu,k⟩:=hok.get ha
            refine ⟨u,?_,k⟩
            simp only[Nat.zero_add]
            show w.cell? _=_
            rw[cell_of_row _ b j vs T' (0,0) hh]; simpa using hu) hw
          refine ⟨v,?_,hv'⟩
          simp only[Nat.zero_add] at hr
          have hr:(loadVar T ⟨b,off,none⟩).run P w = .ok v w:=hr
          simp[zsW,hv,asAddr,hr]
        · cases h
      · cases h
    · cases h
theorem zqe (hL:zdE P lay) (g:Gam C s NoX bt a.tmps w):∀ {rl:List ResultVar} {ps:List (Bool × List A1)},resVals lay s rl=some ps→∃ vs,(rl.mapM (zsW a.tmps)).run P w = .ok vs w∧zpB (cx C s bt w) ps vs∧vs.length=rl.length
  | [],ps,h=>by cases h; exact ⟨[],by simp,trivial,rfl⟩
  | r :: rl,ps,h=>by
    unfold resVals at h
    cases h1:resVal lay s r with
    | none=>rw[h1] at h; cases h
    | some p =>
      rw[h1] at h
      cases h2:resVals lay s rl with
      | none=>rw[h2] at h; cases h
      | some l =>
        rw[h2] at h; cases h
        obtain ⟨v,q1,q2⟩:=resVal_ok hL g h1
        obtain ⟨vs,q3,q4,q5⟩:=zqe hL g h2
        exact ⟨v :: vs,by simp[List.mapM_cons,q1,q3],⟨q2,q4⟩,by simp[q5]⟩
theorem zAC (hL:zdE P lay) (g:Gam C s NoX bt a.tmps w) {fn:Func} {ps:List (Bool × List A1)} (h:resVals lay s fn.results.toList=some ps) {tup:Bool} (ht:tup=!(Nat.beq fn.results.toList.length 1)) :
    ∃ vs,(results fn a.tmps).run P w = .ok (znK tup vs.toArray) w∧zpB (cx C s bt w) ps vs:=by
  obtain ⟨vs,h1,h2,h3⟩:=zqe hL g h
  have hm:(fn.results.mapM (zsW a.tmps)).run P w = .ok vs.toArray w:=by
    rw[Array.mapM_eq_mapM_toList]; simp[h1]
  have hr:results fn a.tmps=(do let vs ← fn.results.mapM (zsW a.tmps); pure (if h:vs.size=1 then vs[0] else .tuple vs)):=rfl
  refine ⟨vs,?_,h2⟩
  by_cases hl:vs.length=1
  · obtain ⟨v,rfl⟩:∃ v,vs=[v]:=List.length_eq_one_iff.1 hl
    have:tup=false:=by rw[ht,← h3]; rfl
    subst this
    rw[hr]; simp[hm,znK,Array.getD]
  · have hne:fn.results.toList.length≠1:=by omega
    have:tup=true:=by
      rw[ht]
      cases hb:Nat.beq fn.results.toList.length 1 with
      | true=>exact absurd (Nat.eq_of_beq_eq_true hb) hne
      | false=>rfl
    subst this
    rw[hr]; simp[hm,hl,znK]
theorem zpB.length {x:Cx}:∀ {ps:List (Bool × List A1)} {vs:List Value},zpB x ps vs→ps.length=vs.length
 | [],[],_=>rfl
 | _ :: _,_ :: _,⟨_,h⟩=>by simp[h.length]
 | [],_ :: _,h=>h.elim
 | _ :: _,[],h=>h.elim
theorem zpB.get {x:Cx}:∀ {ps:List (Bool × List A1)} {vs:List Value},zpB x ps vs→∀ {j:Nat} {p:Bool × List A1},ps[j]? = some p→∃ v,vs[j]? = some v∧VOk x p.1 p.2 v
 | [],[],_,j,p,h=>by simp at h
 | q :: ps,v :: vs,⟨h1,h2⟩,0,p,h=>by simp at h; subst h; exact ⟨v,rfl,h1⟩
 | q :: ps,v :: vs,⟨h1,h2⟩,j+1,p,h=>by simp at h; simpa using h2.get h
 | [],_ :: _,h,_,_,_=>h.elim
 | _ :: _,[],h,_,_,_=>h.elim
theorem zpw:∀ {ps:List (Bool × List A1)} {j:Nat} {av:AV},(znP ps)[j]? = some av→∃ p,ps[j]? = some p∧av = .v p.1 p.2
 | [],j,av,h=>by simp[znP] at h
 | (b,l) :: r,0,av,h=>by simp[znP] at h; exact ⟨(b,l),rfl,h.symm⟩
 | (b,l) :: r,j+1,av,h=>by simp[znP] at h; simpa using zpw (ps:=r) h
theorem zjn:∀ ps:List (Bool × List A1),(znP ps).length=ps.length
 | []=>rfl
 | _ :: r=>by simp[znP,zjn r]
theorem zIm (g:Gam C s NoX bt args w) (n:Nat) :
  Gam { C with w0:=w } ⟨s.env++List.replicate (n - s.env.length) AV.bot,s.ents⟩ NoX bt (args++Array.replicate (n - args.size) undef) w:=by
 refine ⟨by simp[g.len],fun t av _ ht=>?_,g.ents,g.uniq,g.fresh,g.kb,Kp.refl _ _,g.pin,g.np,g.bs,fun b p hp=>⟨(g.fx b p hp).1,g.fxw b p hp⟩⟩
 simp only at ht
 by_cases hj:t < s.env.length
 ·rw [List.getElem?_append_left hj] at ht
  have hta:t < args.size:=by rw[← g.len]; exact hj
  have:(args++Array.replicate (n - args.size) undef).getD t undef=args.getD t undef:=by
   rw[Array.getD_eq_getD_getElem?,Array.getD_eq_getD_getElem?,Array.getElem?_append_left hta]
  rw[this]
  exact g.env t av (fun h=>h) ht
 ·rw[List.getElem?_append_right (by omega)] at ht
  have:av = .bot:=List.eq_of_mem_replicate (List.mem_of_getElem? ht)
  subst this; exact zmi
theorem Gam.zPh (g:Gam { C with w0:=w0 } s X bt tm w) (h:Kp C.keep C.w0 w) (h0:zSE C):Gam C s X bt tm w :=
 ⟨g.len,g.env,g.ents,g.uniq,g.fresh,g.kb,h,g.pin,g.np,g.bs,h0⟩
theorem zai {F:Nat→Option (Array Value→Prop)} {ρ:Type} {E:Env} {f:FuncId} {fn:Func} {code:Code} (hm:P.follows .mixedOrders=true) (hL:zdE P E.lay) (hC:zak P F E.cons) (hf:P.funcs[f]? = some fn) (hb:fn.body=some code) (sg:Sig) (ht:sg.tup=!(Nat.beq fn.results.toList.length 1))
    (dec:Tys sg.zmq.ks→ρ) (out:ρ→Tys sg.zmq.ks) (hod:∀ y,out (dec y)=y) (run:Tys sg.tin.ks→Option ρ) (hrunE:∀ x,zRB E fn sg dec x=run x)
    (hD:zhE E.plans code=true) (hl:∀ body∈zad code,∀ m,zlk (keyOf body) E.loops=some m→zaR P F m body):zax P F f ⟨sg,ρ,run,out⟩:=by
  intro C w bt args x y0 hF hrun g0
  subst hF
  have hrun':evalC E code ⟨(sg.tin.enc x).env++List.replicate (fn.ntmps - (sg.tin.enc x).env.length) AV.bot,(sg.tin.enc x).ents⟩ (fun e s=>match leaf E.lay fn.results.toList sg e s with
    | some y=>some (dec y)
    | none=>none)=some y0:=by
    have:zRB E fn sg dec x=some y0:=(hrunE x).trans hrun
    unfold zRB at this; rw[hb] at this; exact this
  refine calls_of_wp hf hb (ze8 (C:={ C with w0:=w }) hm hL hC code hD hl (zIm g0 fn.ntmps) rfl hrun' fun e s bt a w' g hd hk0=>?_)
  obtain ⟨y,hk,hy⟩:∃ y,leaf E.lay fn.results.toList sg e s=some y∧out y0=y:=by
    have hk0':(match leaf E.lay fn.results.toList sg e s with
      | some y=>some (dec y)
      | none=>none)=some y0:=hk0
    split at hk0'
    · rename_i y hy; cases hk0'; exact ⟨y,hy,hod y⟩
    · cases hk0'
  have fin:leaf E.lay fn.results.toList sg .ret s=some y→bodyPost P fn (fun e w'=>∃ vs β',e = .returned (znK sg.tup vs)∧Kp C.keep w w'∧Gam C (sg.zmq.enc (out y0)) NoX β' vs w') .ret a w':=by
    intro hk
    unfold leaf at hk
    simp only at hk
    split at hk
    · rename_i ps hps
      obtain ⟨vs,h1,h2⟩:=zAC hL g hps ht
      refine ⟨hd,_,h1,vs.toArray,?_⟩
      have ga:Gam { C with w0:=w } ⟨znP ps,s.ents⟩ NoX bt vs.toArray w':=g.zLU (by rw[zjn]; exact h2.length) fun j av v k1 k2=>by
        obtain ⟨p,k3,rfl⟩:=zpw k1
        obtain ⟨v',k4,k5⟩:=h2.get k3
        rw[k2] at k4; cases k4; exact k5
      obtain ⟨bt2,g2⟩:=ga.znJ (l:=zDN 0 sg.outs sg.res)
      have g3:=Tm.zxO hk g2
      rw[hy]
      exact ⟨_,rfl,g3.below,g3.zPh (g0.below.trans g3.below) g0.fx⟩
    · cases hk
  cases e with
  | normal=>exact fin hk
  | ret=>exact fin hk
  | exit i=>cases hk
end
end Go.Di
open Go.RowKit (Below)
namespace Go.Di
def znM {σ ρ:Type} (f:σ→Option (σ ⊕ ρ)):Nat→σ→Option ρ
  | 0,_=>none
  | n+1,x=>match f x with
    | some (.inl y)=>znM f n y
    | some (.inr r)=>some r
    | none=>none
open Classical in
def whileO {σ ρ:Type} (f:σ→Option (σ ⊕ ρ)) (x:σ):Option ρ :=
 if h:∃ r n,znM f n x=some r then some (Classical.choose h) else none
theorem zts {σ ρ:Type} {f:σ→Option (σ ⊕ ρ)}:∀ {n m:Nat} {x:σ} {r r':ρ},znM f n x=some r→znM f m x=some r'→r=r'
  | n + 1,m+1,x,r,r',h1,h2=>by
    unfold znM at h1 h2
    cases hf:f x with
    | none=>rw[hf] at h1; cases h1
    | some y =>
      cases y with
      | inl y=>rw[hf] at h1 h2; exact zts h1 h2
      | inr y=>rw[hf] at h1 h2; cases h1; cases h2; rfl
  | 0,_,_,_,_,h1,_=>by cases h1
  | _+1,0,_,_,_,_,h2=>by cases h2
theorem zjZ {σ ρ:Type} {f:σ→Option (σ ⊕ ρ)} {x:σ} {r:ρ}:whileO f x=some r↔∃ n,znM f n x=some r:=by
 unfold whileO
 constructor
 ·intro h
  split at h
  ·rename_i hh
   cases h
   exact Classical.choose_spec hh
  ·cases h
 ·rintro ⟨n,h⟩
  have hh:∃ r n,znM f n x=some r:=⟨r,n,h⟩
  rw[dif_pos hh]
  obtain ⟨m,hm⟩:=Classical.choose_spec hh
  rw[zts hm h]
theorem za6 {σ ρ:Type} {f:σ→Option (σ ⊕ ρ)} {x y:σ} (h:f x=some (.inl y)):whileO f x=whileO f y:=by
  have key:∀ r,whileO f x=some r↔whileO f y=some r:=fun r=>by
    rw[zjZ,zjZ]
    constructor
    · rintro ⟨n,hn⟩
      cases n with
      | zero=>cases hn
      | succ n=>unfold znM at hn; rw[h] at hn; exact ⟨n,hn⟩
    · rintro ⟨n,hn⟩
      exact ⟨n+1,by unfold znM; rw[h]; exact hn⟩
  cases hy:whileO f y with
  | some r=>exact (key r).2 hy
  | none =>
    cases hx:whileO f x with
    | none=>rfl
    | some r=>rw[(key r).1 hx] at hy; cases hy
theorem zaw {σ ρ:Type} {f:σ→Option (σ ⊕ ρ)} {x:σ} {r:ρ} (h:f x=some (.inr r)):whileO f x=some r :=
 zjZ.2 ⟨1,by simp[znM,h]⟩
section
variable {P:Program} {C:Bs} {w w':World} {s s':St} {bt:Nat→Option Value} {tm:Array Value}
def Tm.fit (T:Tm) (ad:List (Pos × Nat × ST)) (s:St):Option (Tys T.ks):=T.zHL (Go.Di.znJ ad s)
theorem Tm.zyn {T:Tm} {ad:List (Pos × Nat × ST)} {x:Tys T.ks} (h:T.fit ad s=some x) (g:Gam C s NoX bt tm w):∃ bt',Gam C (T.enc x) NoX bt' tm w:=by
 obtain ⟨bt1,g1⟩:=g.znJ (l:=ad)
 exact ⟨_,Tm.zxO h g1⟩
end
end Go.Di
open Go.RowKit (Below)
namespace Go.Di
def zP8:Ex→Ex→Bool
 | .normal,.normal=>true
 | .ret,.ret=>true
 | .exit i,.exit j=>Nat.beq i j
 | _,_=>false
theorem zFY {e f:Ex} (h:zP8 e f=true):e=f:=by
 cases e<;>cases f<;>first | rfl | (cases h; done) | (rw[Nat.eq_of_beq_eq_true h])
def zd2:List (Ex × Tm × List (Pos × Nat × ST))→Type
 | []=>Empty
 | [p]=>Tys p.2.1.ks
 | p :: q :: r=>Tys p.2.1.ks ⊕ zd2 (q :: r)
def fitOut:(l:List (Ex × Tm × List (Pos × Nat × ST)))→Ex→St→Option (zd2 l)
  | [],_,_=>none
  | [p],e,s=>match zP8 p.1 e with
    | true=>match p.2.1.fit p.2.2 s with
      | some x=>some (x:Tys p.2.1.ks)
      | none=>none
    | false=>none
  | p :: q :: r,e,s=>match zP8 p.1 e with
    | true=>match p.2.1.fit p.2.2 s with
      | some x=>some (.inl x:Tys p.2.1.ks ⊕ zd2 (q :: r))
      | none=>none
    | false=>match fitOut (q :: r) e s with
      | some y=>some (.inr y:Tys p.2.1.ks ⊕ zd2 (q :: r))
      | none=>none
def zsZ:(l:List (Ex × Tm × List (Pos × Nat × ST)))→zd2 l→Ex × St
  | [p],y=>(p.1,p.2.1.enc y)
  | p :: q :: r,y=>match (y:Tys p.2.1.ks ⊕ zd2 (q :: r)) with
    | .inl x=>(p.1,p.2.1.enc x)
    | .inr z=>zsZ (q :: r) z
def zvS {β:Type}:(l:List (Ex × Tm × List (Pos × Nat × ST)))→zd2 l→(Ex→St→Option β)→Option β
  | [p],y,k=>k p.1 (p.2.1.enc y)
  | p :: q :: r,y,k=>match (y:Tys p.2.1.ks ⊕ zd2 (q :: r)) with
    | .inl x=>k p.1 (p.2.1.enc x)
    | .inr z=>zvS (q :: r) z k
theorem zqk {β:Type}:∀ (l:List (Ex × Tm × List (Pos × Nat × ST))) (y:zd2 l) (k:Ex→St→Option β),zvS l y k=k (zsZ l y).1 (zsZ l y).2
  | [],y,_=>nomatch y
  | [p],y,k=>rfl
  | p :: q :: r,y,k=>by
    cases (y:Tys p.2.1.ks ⊕ zd2 (q :: r)) with
    | inl x=>rfl
    | inr z=>exact zqk (q :: r) z k
structure LoopD where
 head:Tm
 hads:List (Pos × Nat × ST)
 outs:List (Ex × Tm × List (Pos × Nat × ST))
def stepL (E:Env) (D:LoopD) (body:Code) (x:Tys D.head.ks):Option (Tys D.head.ks ⊕ zd2 D.outs) :=
  evalC E body (D.head.enc x) fun e s=>match e with
    | .normal=>match D.head.fit D.hads s with
      | some y=>some (.inl y)
      | none=>none
    | .exit i=>match fitOut D.outs (.exit i) s with
      | some y=>some (.inr y)
      | none=>none
    | .ret=>match fitOut D.outs .ret s with
      | some y=>some (.inr y)
      | none=>none
def zbO (D:LoopD) (f:Tys D.head.ks→Option (zd2 D.outs)):LM where
  ρ:=zd2 D.outs
  run s:=match D.head.fit D.hads s with
    | some x=>f x
    | none=>none
  out y:=zsZ D.outs y
  elim y k:=zvS D.outs y k
  elim_eq y k:=zqk D.outs y k
section
variable {P:Program} {C:Bs} {w w':World} {s s':St} {bt:Nat→Option Value} {tm:Array Value} {E:Env}
theorem zo6:∀ {l:List (Ex × Tm × List (Pos × Nat × ST))} {e:Ex} {y:zd2 l},fitOut l e s=some y→Gam C s NoX bt tm w→(zsZ l y).1=e∧∃ bt',Gam C (zsZ l y).2 NoX bt' tm w
  | [p], e,y,h,g=>by
    have h':(match zP8 p.1 e with
      | true=>match p.2.1.fit p.2.2 s with
        | some x=>some (x:Tys p.2.1.ks)
        | none=>none
      | false=>none)=some y:=h
    split at h'
    · rename_i he
      split at h'
      · rename_i x hx
        cases h'
        exact ⟨zFY he,Tm.zyn hx g⟩
      · cases h'
    · cases h'
  | p :: q :: r,e,y,h,g=>by
    have h':(match zP8 p.1 e with
      | true=>match p.2.1.fit p.2.2 s with
        | some x=>some (.inl x:Tys p.2.1.ks ⊕ zd2 (q :: r))
        | none=>none
      | false=>match fitOut (q :: r) e s with
        | some y=>some (.inr y:Tys p.2.1.ks ⊕ zd2 (q :: r))
        | none=>none)=some y:=h
    split at h'
    · rename_i he
      split at h'
      · rename_i x hx
        cases h'
        exact ⟨zFY he,Tm.zyn hx g⟩
      · cases h'
    · split at h'
      · rename_i z hz
        cases h'
        exact zo6 (l:=q :: r) hz g
      · cases h'
  | [],_,_,h,_=>by cases h
theorem loop_ok {F:Nat→Option (Array Value→Prop)} (hm:P.follows .mixedOrders=true) (hL:zdE P E.lay) (hC:zak P F E.cons) {D:LoopD} {body:Code} {f:Tys D.head.ks→Option (zd2 D.outs)} (hD:zhE E.plans body=true)
    (hl:∀ b∈zad body,∀ m,zlk (keyOf b) E.loops=some m→zaR P F m b) (hf:∀ x y,f x=some y→whileO (stepL E D body) x=some y):zaR P F (zbO D f) body:=by
  intro C s bt a w y hF g hd hrun Q hQ
  subst hF
  have hrun':(match D.head.fit D.hads s with
    | some x=>f x
    | none=>none)=some y:=hrun
  cases hx:D.head.fit D.hads s with
  | none=>rw[hx] at hrun'; cases hrun'
  | some x =>
    rw[hx] at hrun'
    obtain ⟨n,hn⟩:=zjZ.1 (hf x y hrun')
    obtain ⟨bt0,g0⟩:=Tm.zyn hx g
    refine wp_loop_ghost (fun n a w=>∃ x bt,Gam C (D.head.enc x) NoX bt a.tmps w∧a.defers=[]∧znM (stepL E D body) n x=some y) n ⟨x,bt0,g0,hd,hn⟩ ?_
    rintro n a w ⟨x,bt,g,hd,hn⟩
    cases n with
    | zero=>cases hn
    | succ n =>
      unfold znM at hn
      cases hz:stepL E D body x with
      | none=>rw[hz] at hn; cases hn
      | some z =>
        rw[hz] at hn
        refine ze8 hm hL hC body hD hl g hd hz fun e s' bt' a' w' g' hd' hk=>?_
        cases e with
        | normal =>
          simp only at hk
          split at hk
          · rename_i x' hx'
            cases hk
            obtain ⟨bt2,g2⟩:=Tm.zyn hx' g'
            exact ⟨n,Nat.lt_succ_self n,x',bt2,g2,hd',hn⟩
          · cases hk
        | exit i =>
          simp only at hk
          split at hk
          · rename_i r hr
            cases hk
            have hy:r=y:=Option.some.inj hn
            subst hy
            obtain ⟨he,bt2,g2⟩:=zo6 hr g'
            have:=hQ bt2 a' w' g2 hd'
            have he':(zbO D f).out r=zsZ D.outs r:=rfl
            rw[he',he] at this
            exact this
          · cases hk
        | ret =>
          simp only at hk
          split at hk
          · rename_i r hr
            cases hk
            have hy:r=y:=Option.some.inj hn
            subst hy
            obtain ⟨he,bt2,g2⟩:=zo6 hr g'
            have:=hQ bt2 a' w' g2 hd'
            have he':(zbO D f).out r=zsZ D.outs r:=rfl
            rw[he',he] at this
            exact this
          · cases hk
end
end Go.Di
namespace Go.Di
def zSp (P:Program) (E:TypeId) (e:ST):Bool :=
  match P.info? E with
  | some inf=>match inf.zero with
    | some z=>Nat.beq inf.size e.size && (Nat.ble inf.bytes 256 && zOk (zeroOf e) z.cells.toList)
    | none=>false
  | none=>false
def zFX (P:Program) (fd:Field) (off k:Nat) (g:Bool):Bool :=
 match P.info? fd.type,P.underlying fd.type with
 | some inf,some d=>Nat.beq fd.offset off && (Nat.blt 0 k && (Nat.beq inf.size k && (zBT d==g)))
 | _,_=>false
def zn6 (P:Program):List Field→List (Nat × Nat × Bool)→Bool
 | [],[]=>true
 | fd :: fs,(off,k,g) :: l=>zFX P fd off k g && zn6 P fs l
 | _,_=>false
def isAgg:Value→Bool
 | .agg _=>true
 | _=>false
def zxI (d:TypeDesc):Option CK→Bool
 | some (.int k)=>match d with | .int k'=>ziF k k' | _=>false
 | some .str=>match d with | .string=>true | _=>false
 | some .bool=>match d with | .bool=>true | _=>false
 | some (.sl _)=>true
 | some .nat=>true
 | none=>true
def zMa (P:Program) (d:TypeDesc):Option ST→Bool
 | some e=>match d with | .slice E=>zSp P E e | _=>false
 | none=>true
def byteOk (P:Program) (d:TypeDesc):Option ST→Bool
  | some .byte=>match d with
    | .slice E=>match P.underlying E with
      | some (.int .u8)=>true
      | _=>false
    | _=>false
  | _=>true
def zCL (P:Program) (d:TypeDesc) (z:Value) (i:TI):Bool :=
 match i.strct with
 | true=>match d with | .struct fs=>isAgg z && zn6 P fs.toList i.fields | _=>false
 | false=>true
def zRA (P:Program) (t:TypeId) (i:TI):Bool :=
  match P.info? t,P.underlying t with
  | some inf,some d=>match inf.zero with
    | some z=>Nat.beq inf.size i.zero.length && ((zBT d==i.agg) && (zOk i.zero z.cells.toList && (zCL P d z i && (zMa P d i.elem && (zxI d i.scal && ((i.agg || Nat.beq i.zero.length 1) && byteOk P d i.elem))))))
    | none=>false
  | _,_=>false
def zNb (P:Program):List (TypeId × TI)→Bool
 | []=>true
 | (t,i) :: r=>zRA P t i && zNb P r
theorem zOa {P:Program} {E:TypeId} {e:ST} (h:zSp P E e=true):zSF P E e:=by
 unfold zSp at h
 split at h
 ·rename_i inf hi
  split at h
  ·rename_i z hz
   simp only[Bool.and_eq_true] at h
   exact ⟨inf,z,hi,Nat.eq_of_beq_eq_true h.1,Nat.le_of_ble_eq_true h.2.1,hz,h.2.2⟩
  ·cases h
 ·cases h
theorem zo7 {P:Program}:∀ {fs:List Field} {l:List (Nat × Nat × Bool)},zn6 P fs l=true→zi0 P fs l
  | [],[],_=>trivial
  | fd :: fs,(off,k,g) :: l,h=>by
    simp only[zn6,Bool.and_eq_true] at h
    refine ⟨?_,zo7 h.2⟩
    have h1:=h.1
    unfold zFX at h1
    split at h1
    · rename_i inf d hi hd
      simp only[Bool.and_eq_true,beq_iff_eq] at h1
      exact ⟨Nat.eq_of_beq_eq_true h1.1,Nat.le_of_ble_eq_true h1.2.1,inf,d,hi,Nat.eq_of_beq_eq_true h1.2.2.1,hd,h1.2.2.2⟩
    · cases h1
  | [],_ :: _,h=>by cases h
  | _ :: _,[],h=>by cases h
theorem tiOk_ok {P:Program} {t:TypeId} {i:TI} (h:zRA P t i=true):zie P t i:=by
  unfold zRA at h
  split at h
  · rename_i inf d hi hd
    split at h
    · rename_i z hz
      simp only[Bool.and_eq_true,beq_iff_eq,Bool.or_eq_true] at h
      obtain ⟨h1,h2,h3,h4,h5,h6,h7,h8⟩:=h
      refine ⟨inf,d,z,hi,hd,Nat.eq_of_beq_eq_true h1,h2,hz,h3,fun hs=>?_,fun e he=>?_,fun k hk=>?_,fun hk=>?_,fun hk=>?_,fun ha=>?_,fun he=>?_⟩
      · unfold zCL at h4
        rw[hs] at h4
        simp only at h4
        split at h4
        · rename_i fs
          simp only[Bool.and_eq_true] at h4
          refine ⟨fs,rfl,?_,zo7 h4.2⟩
          have:=h4.1
          cases z<;>first | (cases this; done) | rfl
        · cases h4
      · rw[he] at h5
        simp only[zMa] at h5
        split at h5
        · exact ⟨_,rfl,zOa h5⟩
        · cases h5
      · rw[hk] at h6
        simp only[zxI] at h6
        split at h6
        · rw[zh2 h6]
        · cases h6
      · rw[hk] at h6
        simp only[zxI] at h6
        split at h6
        · rfl
        · cases h6
      · rw[hk] at h6
        simp only[zxI] at h6
        split at h6
        · rfl
        · cases h6
      · rw[ha] at h7; exact Nat.eq_of_beq_eq_true (by simpa using h7)
      · rw [he] at h8
        unfold byteOk at h8
        split at h8
        · split at h8
          · split at h8
            · rename_i E _ hE
              exact ⟨E,rfl,hE⟩
            · cases h8
          · cases h8
        · rename_i hne
          exact absurd rfl hne
    · cases h
  · cases h
theorem zry {P:Program}:∀ {lay:List (TypeId × TI)},zNb P lay=true→zdE P lay
  | [],_,t,i,h=>by cases h
  | (u,j) :: r,hl,t,i,h=>by
    simp only[zNb,Bool.and_eq_true] at hl
    unfold zdc at h
    split at h
    · rename_i hb
      cases h
      rw[Nat.eq_of_beq_eq_true hb]; exact tiOk_ok hl.1
    · exact zry hl.2 t i h
end Go.Di
