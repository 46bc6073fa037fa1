/-
  Own work: part 9 of the texts that the proof of the given statement leans on.
-/
import Derived.Test.YtemlaciidfaceaaGreatZReduceP01
namespace Go.Di
end Go.Di
namespace Go.Di
theorem inB_iff {n lo hi:Int}:inB n lo hi=true↔lo≤n∧n≤hi:=by
  unfold inB; simp only[Bool.and_eq_true,decide_eq_true_iff]
structure MxQ (m:Mx) (r c:Nat) (q:List Rat):Prop where
  r24:r≤24
  c24:c≤24
  len:q.length=r * c
  fits:Fits q
  eq:m=⟨r,c,q.map rq⟩
theorem prod24 {r c:Nat} (hr:r≤24) (hc:c≤24):r * c≤576:=by
  calc r * c≤24 * 24:=Nat.mul_le_mul hr hc
    _=576:=rfl
theorem mx_cases {m:Mx} (h:mxB m=true):∃ r c q,MxQ m r c q:=by
  unfold mxB at h
  simp only[Bool.and_eq_true,inB_iff] at h
  obtain ⟨⟨h1,h2⟩,⟨h3,h4⟩,h5,h6⟩:=h
  obtain ⟨q,hq,he⟩:=goods_q h6
  obtain ⟨rows,cols,cells⟩:=m
  simp only at *
  obtain ⟨r,rfl⟩:=Int.eq_ofNat_of_zero_le h1
  obtain ⟨c,rfl⟩:=Int.eq_ofNat_of_zero_le h3
  have hp:=prod24 (show r≤24 by omega) (show c≤24 by omega)
  have e1:((r:Int) * (c:Int))=((r * c:Nat):Int):=by simp
  rw[e1,wrap_i64 (by omega) (by omega),beq_iff_eq] at h5
  subst he
  exact ⟨r,c,q,by omega,by omega,by rw[List.length_map] at h5; omega,hq,rfl⟩
theorem at_pos {i c k:Nat} (hi:i < 1000) (hc:c≤1000) (hk:k < 1000):IntKind.i64.wrap (IntKind.i64.wrap ((i:Int) * (c:Int))+(k:Int))=((i * c+k:Nat):Int):=by
  have hp:i * c≤1000 * 1000:=Nat.mul_le_mul (by omega) hc
  have e1:((i:Int) * (c:Int))=((i * c:Nat):Int):=by simp
  rw[e1,wrap_i64 (n:=((i * c:Nat):Int)) (by omega) (by omega),wrap_i64 (by omega) (by omega)]
  simp
theorem at_lt {i r c k:Nat} (hi:i < r) (hk:k < c):i * c+k < r * c:=by
  have:(i+1) * c≤r * c:=Nat.mul_le_mul_right _ (by omega)
  rw[Nat.add_mul,Nat.one_mul] at this
  omega
/-! ### Matrices of integers -/
/-! ### Elements,rows,diagonals -/
/-! ### Products with vectors -/
end Go.Di
namespace Go.Di
/-! ### Grids -/
def grid {α:Type} (r c:Nat) (g:Nat→Nat→α):List α:=(List.range r).flatMap fun i=>(List.range c).map (g i)
theorem grid_succ {α:Type} (r c:Nat) (g:Nat→Nat→α):grid (r+1) c g=grid r c g++(List.range c).map (g r):=by
  unfold grid; rw[List.range_succ,List.flatMap_append]; simp
theorem len_grid {α:Type} (r c:Nat) (g:Nat→Nat→α):(grid r c g).length=r * c:=by
  induction r with
  | zero=>simp[grid]
  | succ r ih=>rw[grid_succ,List.length_append,ih,List.length_map,List.length_range,Nat.add_mul,Nat.one_mul]
theorem grid_at {α:Type} {r c:Nat} (g:Nat→Nat→α) {j:Nat} (h:j < r * c):(grid r c g)[j]? = some (g (j / c) (j % c)):=by
  induction r with
  | zero=>omega
  | succ r ih =>
    rw[grid_succ]
    by_cases hj:j < r * c
    · rw[List.getElem?_append_left (by rw[len_grid]; exact hj)]; exact ih hj
    · rw [List.getElem?_append_right (by rw[len_grid]; omega),len_grid]
      rw[Nat.add_mul,Nat.one_mul] at h
      have hk:j - r * c < c:=by omega
      rw[List.getElem?_map,List.getElem?_range hk]
      have e:j=c * r+(j - r * c):=by rw[Nat.mul_comm c r]; omega
      have h1:j / c=r:=by
        rw[e,Nat.mul_add_div (by omega),Nat.div_eq_of_lt hk]; omega
      have h2:j % c=j - r * c:=by
        conv=>lhs; rw[e]
        rw[Nat.mul_add_mod,Nat.mod_eq_of_lt hk]
      rw[h1,h2]; rfl
theorem pos_div {i c k:Nat} (hk:k < c):(i * c+k) / c=i∧(i * c+k) % c=k:=by
  constructor
  · rw[Nat.mul_comm,Nat.mul_add_div (by omega),Nat.div_eq_of_lt hk]; omega
  · rw[Nat.mul_comm,Nat.mul_add_mod,Nat.mod_eq_of_lt hk]
theorem grid_get {α:Type} {r c:Nat} (g:Nat→Nat→α) {i k:Nat} (hi:i < r) (hk:k < c):(grid r c g)[i * c+k]? = some (g i k):=by
  rw[grid_at g (at_lt hi hk),(pos_div hk).1,(pos_div hk).2]
theorem grid_mem {α:Type} {r c:Nat} {g:Nat→Nat→α} {x:α} (h:x∈grid r c g):∃ i k,i < r∧k < c∧x=g i k:=by
  obtain ⟨i,hi,hx⟩:=List.mem_flatMap.1 h
  obtain ⟨k,hk,rfl⟩:=List.mem_map.1 hx
  exact ⟨i,k,List.mem_range.1 hi,List.mem_range.1 hk,rfl⟩
theorem div_parts {r c j:Nat} (h:j < r * c):j / c < r∧j % c < c∧j / c * c+j % c=j:=by
  have hc:0 < c:=by
    rcases Nat.eq_zero_or_pos c with h0 | h0
    · subst h0; simp at h
    · exact h0
  refine ⟨Nat.div_lt_of_lt_mul (by rw[Nat.mul_comm]; exact h),Nat.mod_lt _ hc,?_⟩
  rw[Nat.mul_comm]; exact Nat.div_add_mod j c
theorem grid_congr {α:Type} {r c:Nat} {g h:Nat→Nat→α} (e:∀ i k,i < r→k < c→g i k=h i k):grid r c g=grid r c h:=by
  apply List.ext_getElem?
  intro j
  by_cases hj:j < r * c
  · obtain ⟨h1,h2,_⟩:=div_parts hj
    rw[grid_at g hj,grid_at h hj,e _ _ h1 h2]
  · rw[List.getElem?_eq_none (by rw[len_grid]; omega),List.getElem?_eq_none (by rw[len_grid]; omega)]
theorem grid_set {α:Type} {r c i k:Nat} (g:Nat→Nat→α) (x:α) (hi:i < r) (hk:k < c):(grid r c g).set (i * c+k) x=grid r c fun a b=>if a=i∧b=k then x else g a b:=by
  apply List.ext_getElem?
  intro j
  rw[List.getElem?_set]
  by_cases hj:j < r * c
  · obtain ⟨h1,h2,h3⟩:=div_parts hj
    rw[grid_at (fun a b=>if a=i∧b=k then x else g a b) hj]
    split
    · rename_i e
      rw[if_pos (by rw[len_grid]; omega)]
      subst e
      rw[(pos_div hk).1,(pos_div hk).2,if_pos ⟨rfl,rfl⟩]
    · rename_i e
      rw[grid_at g hj,if_neg (by rintro ⟨e1,e2⟩; rw[e1,e2] at h3; exact e h3)]
  · rw[List.getElem?_eq_none (l:=grid r c _) (by rw[len_grid]; omega),if_neg (by have:=at_lt hi hk; omega),List.getElem?_eq_none (by rw[len_grid]; omega)]
/-! ### Loops -/
/-! ### Identities -/
theorem fit_one:Fit 1:=by
  have:=fit_int (n:=1) (by omega) (by omega)
  simpa using this
theorem rfit_grid {r c:Nat} {g:Nat→Nat→Option Rat} (hr:r≤24) (hc:c≤24) (h:∀ i k,i < r→k < c→Oks (g i k)):Rfit ((grid r c g).map ro) :=
  rfit_ro (fun o ho=>by obtain ⟨i,k,hi,hk,rfl⟩:=grid_mem ho; exact h i k hi hk) (by rw[len_grid]; have:=prod24 hr hc; omega)
/-! ### Transposed matrices -/
def trans (q:List Rat) (r c:Nat):List Rat:=grid c r fun i k=>(q[k * c+i]?).getD 0
/-! ### Sums,products -/
/-! ### Parts -/
end Go.Di
namespace Go.Di
end Go.Di
namespace Go.Di
theorem spec_negO {o:Option Rat} (ho:Oks o):M_spec_l04Neg (ro o)=some (ro (negO o)):=by
  unfold M_spec_l04Neg
  cases o with
  | none =>
    have h0:M_spec_l03Make (!(ro none).neg) (ro none).mag=some (bg 0):=by
      rw[ro_none_dg]
      show M_spec_l03Make true (dg 0)=_
      rw[spec_make true (by rw[dg_zero]; simp),sg_zero]
    rw[h0,Option.bind_some,room (by simp[ro]),Option.bind_some,bg_zero]; rfl
  | some q =>
    have fq:=ho q rfl
    show ((M_spec_l03Make (!decide (q.num < 0)) (dg q.num.natAbs)).bind fun r1=>(guardO (Nat.ble (dg q.den).length maxNew)).bind fun _=>some (⟨r1.neg,r1.mag,dg q.den⟩:Rt))=_
    rw[spec_make _ (by have:=fq.1; omega),Option.bind_some,room (by have:=fq.2; omega),Option.bind_some]
    have e:sg (!decide (q.num < 0)) q.num.natAbs = -q.num:=by
      by_cases h:q.num < 0
      · rw[decide_eq_true h]; simp only[sg,Bool.not_true,cond_false]; omega
      · rw[decide_eq_false h]; simp only[sg,Bool.not_false,cond_true]; omega
    rw[e]; rfl
theorem spec_subO {o p:Option Rat} (ho:Oks o) (hp:Oks p):M_spec_l05Sub (ro o) (ro p)=some (ro (subO o p)):=by
  unfold M_spec_l05Sub
  rw[spec_negO hp,Option.bind_some,spec_addO ho (oks_negO hp)]; rfl
/-! ### Half tangents -/
/-! ### Lists of observations -/
end Go.Di
namespace Go.Di
end Go.Di
namespace Go.Di
theorem stop_loop {σ ρ:Type} {S:σ→Option (σ ⊕ ρ)} (st:Nat→σ) (n:Nat) (ok:Nat→Bool) (bad fin:ρ)
    (h:∀ i,i < n→(∀ j,j < i→ok j=true)→S (st i)=some (cond (ok i) (.inl (st (i+1))) (.inr bad)))
    (he:(∀ j,j < n→ok j=true)→S (st n)=some (.inr fin)):whileO S (st 0)=some (cond ((List.range n).all ok) fin bad):=by
  have key : ∀ s i,i+s=n→(∀ j,j < i→ok j=true)→whileO S (st i)=some (cond ((List.range n).all ok) fin bad):=by
    intro s
    induction s with
    | zero =>
      intro i hi hj
      have:i=n:=by omega
      subst this
      have ha:(List.range i).all ok=true:=by rw[List.all_eq_true]; intro x hx; exact hj x (List.mem_range.1 hx)
      rw[ha,cond_true]; exact whileO_inr (he hj)
    | succ s ih =>
      intro i hi hj
      have hn:i < n:=by omega
      have hs:=h i hn hj
      cases hb:ok i with
      | true =>
        rw[hb,cond_true] at hs
        rw[whileO_inl hs]
        exact ih (i+1) (by omega) fun j hji=>by
          by_cases e:j=i
          · rw[e]; exact hb
          · exact hj j (by omega)
      | false =>
        rw[hb,cond_false] at hs
        have ha:(List.range n).all ok=false:=by
          rw[← Bool.not_eq_true,List.all_eq_true]
          intro hall
          have:=hall i (List.mem_range.2 hn)
          rw[hb] at this; cases this
        rw[ha,cond_false]; exact whileO_inr hs
  exact key n 0 (by omega) fun j hj=>by omega
noncomputable def cellO (lo:List (Option Rat)) (p:Nat):Option Rat:=(lo[p]?).getD none
theorem idx_cell {lo:List (Option Rat)} {p:Nat} (h:p < lo.length):idx (lo.map ro) (p:Int)=some (ro (cellO lo p)):=by
  rw[idx_o h]; unfold cellO; rw[List.getElem?_eq_getElem h]; rfl
theorem get_cellO {lo:List (Option Rat)} {p:Nat} (h:p < lo.length):(lo.map ro)[p]? = some (ro (cellO lo p)):=by
  rw[← idx_nat,idx_cell h]
theorem rq_some (q:List Rat):q.map rq=(q.map some).map ro:=by rw[List.map_map]; rfl
theorem impl_atO {lo:List (Option Rat)} {n c i k:Nat} {x:Int} (hl:lo.length=n * c) (hn:n≤1000) (hc:c≤1000) (hi:i < n) (hk:k < c) :
    M_impl_Matrix_at_mdd ⟨x,c,lo.map ro⟩ i k=some (ro (cellO lo (i * c+k)),lo.map ro):=by
  have hp:i * c+k < lo.length:=by rw[hl]; exact at_lt hi hk
  unfold M_impl_Matrix_at_mdd
  simp only[at_pos (show i < 1000 by omega) hc (show k < 1000 by omega),idx_cell hp,Option.bind_some,Int.toNat_natCast,get_cellO hp]
theorem spec_atO {lo:List (Option Rat)} {n c i k:Nat} {x:Int} (hl:lo.length=n * c) (hn:n≤1000) (hc:c≤1000) (hi:i < n) (hk:k < c) :
    M_spec_l06At_mdd ⟨x,c,lo.map ro⟩ i k=some (ro (cellO lo (i * c+k)),lo.map ro):=impl_atO hl hn hc hi hk
section
variable {q lo:List (Option Rat)} {d:List Rat} {n k:Nat}
end
/-! ### A column -/
section
variable {q lo:List (Option Rat)} {d:List Rat} {n k:Nat} {x:Rat}
end
/-! ### All columns -/
structure FacOk (n k:Nat) (lo:List (Option Rat)) (d:List Rat):Prop where
  len:lo.length=n * n
  oks:∀ o∈lo,Oks o
  all:∀ o∈lo,o.isSome=true
  fits:Fits d
  dlen:d.length=k
  pos:∀ y∈d,0 < y
end Go.Di
namespace Go.Di
theorem cell_grid {r c:Nat} {g:Nat→Nat→Option Rat} {i k:Nat} (hi:i < r) (hk:k < c):cellO (grid r c g) (i * c+k)=g i k:=by
  unfold cellO; rw[grid_get g hi hk]; rfl
theorem at_grid {r c:Nat} {g:Nat→Nat→Option Rat} {i k:Nat} {x:Int} (hr:r≤1000) (hc:c≤1000) (hi:i < r) (hk:k < c) :
    M_spec_l06At_mdd ⟨x,c,(grid r c g).map ro⟩ i k=some (ro (g i k),(grid r c g).map ro):=by
  rw[spec_atO (len_grid r c g) hr hc hi hk,cell_grid hi hk]
theorem at_grid' {r c:Nat} {g:Nat→Nat→Option Rat} {i k:Nat} {x:Int} (hr:r≤1000) (hc:c≤1000) (hi:i < r) (hk:k < c) :
    M_impl_Matrix_at_mdd ⟨x,c,(grid r c g).map ro⟩ i k=some (ro (g i k),(grid r c g).map ro):=at_grid hr hc hi hk
theorem idx_grid {r c:Nat} {g:Nat→Nat→Option Rat} {i k:Nat} (hi:i < r) (hk:k < c):idx ((grid r c g).map ro) ((i * c+k:Nat):Int)=some (ro (g i k)):=by
  rw[idx_cell (by rw[len_grid]; exact at_lt hi hk),cell_grid hi hk]
theorem get_grid {r c:Nat} {g:Nat→Nat→Option Rat} {i k:Nat} (hi:i < r) (hk:k < c):((grid r c g).map ro)[i * c+k]? = some (ro (g i k)):=by
  rw[← idx_nat,idx_grid hi hk]
theorem set_grid {r c:Nat} {g h:Nat→Nat→Option Rat} {i k:Nat} {o:Option Rat} (hi:i < r) (hk:k < c) (e:∀ a b,a < r→b < c→h a b=if a=i∧b=k then o else g a b) :
    ((grid r c g).map ro).set (i * c+k) (ro o)=(grid r c h).map ro:=by
  rw[← List.map_set,grid_set g o hi hk]
  rw[grid_congr e]
theorem nil_ro (o:Option Rat):M_spec_l05Nil (ro o)=some (decide (o=some 0∨o=none)):=by
  cases o with
  | none=>simp[M_spec_l05Nil,ro]
  | some q=>rw[show ro (some q)=rq q from rfl,nil_rq]; simp
def Good2 (r c:Nat) (g:Nat→Nat→Option Rat):Prop:=∀ i k,i < r→k < c→Oks (g i k)∧(g i k).isSome=true
def swp (g:Nat→Nat→Option Rat) (p u:Nat):Nat→Nat→Option Rat:=fun a b=>if a=p then g u b else if a=u then g p b else g a b
noncomputable def dvd (g:Nat→Nat→Option Rat) (u k:Nat):Nat→Nat→Option Rat:=fun a b=>if a=u then divO (g u b) (g u k) else g a b
noncomputable def clr (g:Nat→Nat→Option Rat) (u k:Nat):Nat→Nat→Option Rat:=fun a b=>if a=u then g u b else if g a k=some 0 then g a b else subO (g a b) (mulO (g a k) (g u b))
def pivR (g:Nat→Nat→Option Rat) (k:Nat):Nat→Nat→Nat
  | 0,i=>i
  | s+1,i=>if g i k=some 0 then pivR g k s (i+1) else i
theorem pivR_le (g:Nat→Nat→Option Rat) (k:Nat):∀ s i,i≤pivR g k s i∧pivR g k s i≤i+s
  | 0,i=>⟨Nat.le_refl _,Nat.le_refl _⟩
  | s+1,i=>by
    unfold pivR
    split
    · have:=pivR_le g k s (i+1); omega
    · omega
theorem pivR_zero (g:Nat→Nat→Option Rat) (k:Nat):∀ s i a,i≤a→a < pivR g k s i→g a k=some 0
  | 0,i,a,h1,h2=>by unfold pivR at h2; omega
  | s + 1,i,a,h1,h2=>by
    unfold pivR at h2
    split at h2
    · by_cases e:a=i
      · rw[e]; assumption
      · exact pivR_zero g k s (i+1) a (by omega) h2
    · omega
theorem pivR_ne (g:Nat→Nat→Option Rat) (k:Nat):∀ s i,pivR g k s i < i+s→g (pivR g k s i) k≠some 0
  | 0,i,h=>by unfold pivR at h; omega
  | s+1,i,h=>by
    unfold pivR at h ⊢
    split
    · rename_i h0; rw[if_pos h0] at h; exact pivR_ne g k s (i+1) (by omega)
    · assumption
section
variable {r c:Nat} {g:Nat→Nat→Option Rat} {k u:Nat}
theorem sel_find (hr:r≤24) (hc:c≤200) (hg:Good2 r c g) (hk:k < c) (hu:u≤r) (n:Int) (pv:List Int) (fs:List Rt) :
    L_spec_l07Reduce_m_1 k n u r c ((grid r c g).map ro) pv fs=some ((k:Int),n,((pivR g k (r - u) u:Nat):Int),(r:Int),(c:Int),(grid r c g).map ro,pv,fs,()):=by
  unfold L_spec_l07Reduce_m_1
  have key : ∀ s i,i+s=r→whileO S_spec_l07Reduce_m_1 ((k:Int),n,(i:Int),(r:Int),(c:Int),(grid r c g).map ro,pv,fs,())=some ((k:Int),n,((pivR g k s i:Nat):Int),(r:Int),(c:Int),(grid r c g).map ro,pv,fs,()):=by
    intro s
    induction s with
    | zero =>
      intro i hi
      apply whileO_inr
      simp[S_spec_l07Reduce_m_1,pivR,show i=r by omega]
    | succ s ih =>
      intro i hi
      have hir:i < r:=by omega
      by_cases h0:g i k=some 0
      · rw [whileO_inl (y:=((k:Int),n,((i+1:Nat):Int),(r:Int),(c:Int),(grid r c g).map ro,pv,fs,()))]
        · rw[ih (i+1) (by omega),pivR,if_pos h0]
        · simp only[S_spec_l07Reduce_m_1,dlt hir,cond_true,at_grid (show r≤1000 by omega) (show c≤1000 by omega) hir hk,Option.bind_some,nil_ro,h0,succ_wrap hir (show r≤1048576 by omega)]
          simp
      · apply whileO_inr
        have hsm:=(hg i k hir hk).2
        have hn:¬ (g i k=some 0∨g i k=none):=by
          rintro (h | h)
          · exact h0 h
          · rw[h] at hsm; cases hsm
        simp only[S_spec_l07Reduce_m_1,dlt hir,cond_true,at_grid (show r≤1000 by omega) (show c≤1000 by omega) hir hk,Option.bind_some,nil_ro,decide_eq_false hn,cond_false,pivR,if_neg h0]
  exact key (r - u) u (by omega)
theorem sel_swap (hr:r≤24) (hc:c≤200) {p:Nat} (hp:p < r) (hu:u < r) (k0:Int) (pv:List Int) (fs:List Rt) :
    L_spec_l07Reduce_m_2 k0 u p 0 r c ((grid r c g).map ro) fs pv=some (k0,(u:Int),(r:Int),(c:Int),(grid r c (swp g p u)).map ro,fs,pv,()):=by
  unfold L_spec_l07Reduce_m_2
  have key := whileO_upto S_spec_l07Reduce_m_2 (fun j=>(k0,(u:Int),(p:Int),(j:Int),(r:Int),(c:Int),(grid r c (fun a b=>if b < j then swp g p u a b else g a b)).map ro,fs,pv,())) c
    (k0, (u : Int),(r:Int),(c:Int),(grid r c (fun a b=>if b < c then swp g p u a b else g a b)).map ro,fs,pv,()) (fun j hj=>by
      have e1:=at_pos (i:=p) (c:=c) (k:=j) (by omega) (by omega) (by omega)
      have e2:=at_pos (i:=u) (c:=c) (k:=j) (by omega) (by omega) (by omega)
      have s1:=set_grid (r:=r) (c:=c) (g:=fun a b=>if b < j then swp g p u a b else g a b) (h:=fun a b=>if a=p∧b=j then g u j else if b < j then swp g p u a b else g a b) (o:=g u j) hp hj (fun a b _ _=>rfl)
      have s2:=set_grid (r:=r) (c:=c) (g:=fun a b=>if a=p∧b=j then g u j else if b < j then swp g p u a b else g a b) (h:=fun a b=>if b < j+1 then swp g p u a b else g a b) (o:=g p j) hu hj (fun a b _ _=>by
        unfold swp
        by_cases hb:b=j
        · subst hb
          by_cases h1:a=u
          · subst h1
            by_cases h2:a=p
            · subst h2; simp
            · simp[h2]
          · by_cases h2:a=p
            · subst h2; simp[h1]
            · simp[h1,h2]
        · have:(b < j+1)=(b < j):=by rw[eq_iff_iff]; omega
          simp[hb,this])
      simp only[S_spec_l07Reduce_m_2,dlt hj,cond_true,e1,e2,idx_grid hp hj,idx_grid hu hj,Int.toNat_natCast,get_grid hp hj,get_grid hu hj,Option.bind_some,Nat.lt_irrefl,if_false,s1,s2,succ_wrap hj (show c≤1048576 by omega)]) (by simp[S_spec_l07Reduce_m_2])
  refine Eq.trans ?_ (key.trans ?_)
  · rw[grid_congr (r:=r) (c:=c) (g:=fun a b=>if b < 0 then swp g p u a b else g a b) (h:=g) (fun a b _ _=>by simp)]; rfl
  · rw[grid_congr (r:=r) (c:=c) (g:=fun a b=>if b < c then swp g p u a b else g a b) (h:=swp g p u) (fun a b _ hb=>by simp[hb])]
theorem sel_div (hr:r≤24) (hc:c≤200) (hg:Good2 r c g) (hk:k < c) (hu:u < r) (k0:Int) (pv:List Int) (fs:List Rt) :
    L_spec_l07Reduce_m_3 k0 u k r c ((grid r c g).map ro) (ro (g u k)).neg (ro (g u k)).mag (ro (g u k)).den fs pv =
      some (k0,(u:Int),(r:Int),(c:Int),(grid r c (fun a b=>if a=u∧k≤b then divO (g u b) (g u k) else g a b)).map ro,fs,pv,()):=by
  unfold L_spec_l07Reduce_m_3
  have key := whileO_upto S_spec_l07Reduce_m_3 (fun j=>(k0,(u:Int),((k+j:Nat):Int),(r:Int),(c:Int),(grid r c (fun a b=>if a=u∧k≤b∧b < k+j then divO (g u b) (g u k) else g a b)).map ro,(ro (g u k)).neg,(ro (g u k)).mag,(ro (g u k)).den,fs,pv,())) (c - k)
    (k0, (u : Int),(r:Int),(c:Int),(grid r c (fun a b=>if a=u∧k≤b∧b < k+(c - k) then divO (g u b) (g u k) else g a b)).map ro,fs,pv,()) (fun j hj=>by
      have hj':k+j < c:=by omega
      have e1:=at_pos (i:=u) (c:=c) (k:=k+j) (by omega) (by omega) (by omega)
      have s1:=set_grid (r:=r) (c:=c) (g:=fun a b=>if a=u∧k≤b∧b < k+j then divO (g u b) (g u k) else g a b) (h:=fun a b=>if a=u∧k≤b∧b < k+(j+1) then divO (g u b) (g u k) else g a b) (o:=divO (g u (k+j)) (g u k)) hu hj' (fun a b _ _=>by
        by_cases h1:a=u
        · subst h1
          by_cases h2:b=k+j
          · subst h2; rw[if_pos ⟨rfl,by omega,by omega⟩,if_pos ⟨rfl,rfl⟩]
          · rw[if_neg (show ¬ (a=a∧b=k+j) from fun h=>h2 h.2)]
            by_cases h3:k≤b∧b < k+j
            · rw[if_pos ⟨rfl,h3.1,by omega⟩,if_pos ⟨rfl,h3⟩]
            · rw[if_neg (by rintro ⟨_,h4,h5⟩; exact h3 ⟨h4,by omega⟩),if_neg (by rintro ⟨_,h4⟩; exact h3 h4)]
        · rw[if_neg (fun h=>h1 h.1),if_neg (fun h=>h1 h.1),if_neg (fun h=>h1 h.1)])
      have hd:=spec_divO (hg u (k+j) hu hj').1 (hg u k hu hk).1
      have ha:=at_grid (r:=r) (c:=c) (g:=fun a b=>if a=u∧k≤b∧b < k+j then divO (g u b) (g u k) else g a b) (x:=(r:Int)) (show r≤1000 by omega) (show c≤1000 by omega) hu hj'
      rw[if_neg (by omega)] at ha
      simp only[S_spec_l07Reduce_m_3,decide_eq_true (show ((k+j:Nat):Int) < (c:Int) by omega),cond_true,ha,Option.bind_some]
      show ((M_spec_l05Div (ro (g u (k+j))) (ro (g u k))).bind _)=_
      simp only[hd,Option.bind_some,e1,idx_grid hu hj',Int.toNat_natCast,s1,succ_wrap hj' (show c≤1048576 by omega)]
      rfl) (by simp only[S_spec_l07Reduce_m_3,decide_eq_false (show ¬ (((k+(c - k):Nat):Int) < (c:Int)) by omega),cond_false])
  refine Eq.trans ?_ (key.trans ?_)
  · rw[grid_congr (r:=r) (c:=c) (g:=fun a b=>if a=u∧k≤b∧b < k+0 then divO (g u b) (g u k) else g a b) (h:=g) (fun a b _ _=>if_neg (by omega))]; rfl
  · rw [grid_congr (r:=r) (c:=c) (g:=fun a b=>if a=u∧k≤b∧b < k+(c - k) then divO (g u b) (g u k) else g a b) (h:=fun a b=>if a=u∧k≤b then divO (g u b) (g u k) else g a b) (fun a b _ hb=>by
      by_cases h1:a=u∧k≤b
      · rw[if_pos h1,if_pos ⟨h1.1,h1.2,by omega⟩]
      · rw[if_neg h1,if_neg (fun h=>h1 ⟨h.1,h.2.1⟩)])]
noncomputable def sub1 (x f y:Option Rat):Option Rat:=if y=some 0∨y=none then x else subO x (mulO f y)
theorem sel_clear1 (hr:r≤24) (hc:c≤200) (hg:∀ i k,i < r→k < c→Oks (g i k)) {i:Nat} (hi:i < r) (hu:u < r) (hiu:i≠u) {f:Option Rat} (hf:Oks f) :
    L_spec_l07Clear_mdd_1 u k i k ((grid r c g).map ro) r c (ro f).neg (ro f).mag (ro f).den =
      some ((u:Int),(k:Int),(i:Int),(grid r c (fun a b=>if a=i∧k≤b then sub1 (g i b) f (g u b) else g a b)).map ro,(r:Int),(c:Int),()):=by
  unfold L_spec_l07Clear_mdd_1
  have key := whileO_upto S_spec_l07Clear_mdd_1 (fun j=>((u:Int),(k:Int),(i:Int),((k+j:Nat):Int),(grid r c (fun a b=>if a=i∧k≤b∧b < k+j then sub1 (g i b) f (g u b) else g a b)).map ro,(r:Int),(c:Int),(ro f).neg,(ro f).mag,(ro f).den,())) (c - k)
    ((u : Int),(k:Int),(i:Int),(grid r c (fun a b=>if a=i∧k≤b∧b < k+(c - k) then sub1 (g i b) f (g u b) else g a b)).map ro,(r:Int),(c:Int),()) (fun j hj=>by
      have hj':k+j < c:=by omega
      have e1:=at_pos (i:=i) (c:=c) (k:=k+j) (by omega) (by omega) (by omega)
      have s0:∀ a b,(if a=i∧k≤b∧b < k+(j+1) then sub1 (g i b) f (g u b) else g a b)=if a=i∧b=k+j then sub1 (g i (k+j)) f (g u (k+j)) else if a=i∧k≤b∧b < k+j then sub1 (g i b) f (g u b) else g a b:=by
        intro a b
        by_cases h1:a=i
        · subst h1
          by_cases h2:b=k+j
          · subst h2; rw[if_pos ⟨rfl,by omega,by omega⟩,if_pos ⟨rfl,rfl⟩]
          · rw[if_neg (show ¬ (a=a∧b=k+j) from fun h=>h2 h.2)]
            by_cases h3:k≤b∧b < k+j
            · rw[if_pos ⟨rfl,h3.1,by omega⟩,if_pos ⟨rfl,h3⟩]
            · rw[if_neg (by rintro ⟨_,h4,h5⟩; exact h3 ⟨h4,by omega⟩),if_neg (by rintro ⟨_,h4⟩; exact h3 h4)]
        · rw[if_neg (fun h=>h1 h.1),if_neg (fun h=>h1 h.1),if_neg (fun h=>h1 h.1)]
      have s1:=set_grid (r:=r) (c:=c) (g:=fun a b=>if a=i∧k≤b∧b < k+j then sub1 (g i b) f (g u b) else g a b) (h:=fun a b=>if a=i∧k≤b∧b < k+(j+1) then sub1 (g i b) f (g u b) else g a b) (o:=sub1 (g i (k+j)) f (g u (k+j))) hi hj' (fun a b _ _=>s0 a b)
      have ha:=at_grid (r:=r) (c:=c) (g:=fun a b=>if a=i∧k≤b∧b < k+j then sub1 (g i b) f (g u b) else g a b) (x:=(r:Int)) (show r≤1000 by omega) (show c≤1000 by omega) hu hj'
      rw[if_neg (by rintro ⟨h,_⟩; exact hiu h.symm)] at ha
      have hb:=at_grid (r:=r) (c:=c) (g:=fun a b=>if a=i∧k≤b∧b < k+j then sub1 (g i b) f (g u b) else g a b) (x:=(r:Int)) (show r≤1000 by omega) (show c≤1000 by omega) hi hj'
      rw[if_neg (by omega)] at hb
      simp only[S_spec_l07Clear_mdd_1,decide_eq_true (show ((k+j:Nat):Int) < (c:Int) by omega),cond_true,ha,Option.bind_some,nil_ro]
      by_cases h0:g u (k+j)=some 0∨g u (k+j)=none
      · rw [decide_eq_true h0]
        have e2:sub1 (g i (k+j)) f (g u (k+j))=g i (k+j):=by unfold sub1; rw[if_pos h0]
        have s2:grid r c (fun a b=>if a=i∧k≤b∧b < k+(j+1) then sub1 (g i b) f (g u b) else g a b)=grid r c (fun a b=>if a=i∧k≤b∧b < k+j then sub1 (g i b) f (g u b) else g a b):=grid_congr fun a b _ _=>by
          show (if a=i∧k≤b∧b < k+(j+1) then sub1 (g i b) f (g u b) else g a b)=_
          rw[s0,e2]
          by_cases h1:a=i∧b=k+j
          · rw[if_pos h1,h1.1,h1.2,if_neg (by omega)]
          · rw[if_neg h1]
        simp only[Bool.not_true,cond_false,succ_wrap hj' (show c≤1048576 by omega)]
        rw[show k+j+1=k+(j+1) from rfl,s2]
      · rw[decide_eq_false h0]
        have e2:sub1 (g i (k+j)) f (g u (k+j))=subO (g i (k+j)) (mulO f (g u (k+j))):=by unfold sub1; rw[if_neg h0]
        rw[e2] at s1
        simp only[Bool.not_false,cond_true,hb,ha,Option.bind_some]
        show ((M_spec_l04Mul (ro f) (ro (g u (k+j)))).bind _)=_
        simp only[spec_mulO hf (hg u (k+j) hu hj'),Option.bind_some,spec_subO (hg i (k+j) hi hj') (oks_mulO (o:=f) (p:=g u (k+j))),e1,idx_grid hi hj',Int.toNat_natCast,s1,succ_wrap hj' (show c≤1048576 by omega)]
        rfl) (by simp only[S_spec_l07Clear_mdd_1,decide_eq_false (show ¬ (((k+(c - k):Nat):Int) < (c:Int)) by omega),cond_false])
  refine Eq.trans ?_ (key.trans ?_)
  · rw[grid_congr (r:=r) (c:=c) (g:=fun a b=>if a=i∧k≤b∧b < k+0 then sub1 (g i b) f (g u b) else g a b) (h:=g) (fun a b _ _=>if_neg (by omega))]; rfl
  · rw [grid_congr (r:=r) (c:=c) (g:=fun a b=>if a=i∧k≤b∧b < k+(c - k) then sub1 (g i b) f (g u b) else g a b) (h:=fun a b=>if a=i∧k≤b then sub1 (g i b) f (g u b) else g a b) (fun a b _ hb=>by
      by_cases h1:a=i∧k≤b
      · rw[if_pos h1,if_pos ⟨h1.1,h1.2,by omega⟩]
      · rw[if_neg h1,if_neg (fun h=>h1 ⟨h.1,h.2.1⟩)])]
noncomputable def sclr (g:Nat→Nat→Option Rat) (u k:Nat):Nat→Nat→Option Rat:=fun a b=>if a≠u∧¬ (g a k=some 0∨g a k=none)∧k≤b then sub1 (g a b) (g a k) (g u b) else g a b
theorem oks_sclr {a b:Nat} (h:Oks (g a b)):Oks (sclr g u k a b):=by
  unfold sclr sub1
  split
  · split
    · exact h
    · exact oks_subO
  · exact h
theorem sel_clear (hr:r≤24) (hc:c≤200) (hg:∀ i k,i < r→k < c→Oks (g i k)) (hu:u < r) (hk:k < c) :
    M_spec_l07Clear_mdd ⟨r,c,(grid r c g).map ro⟩ u k=some ((grid r c (sclr g u k)).map ro):=by
  unfold M_spec_l07Clear_mdd L_spec_l07Clear_mdd_0
  have key := whileO_upto S_spec_l07Clear_mdd_0 (fun i=>((u:Int),(k:Int),(i:Int),(grid r c (fun a b=>if a < i then sclr g u k a b else g a b)).map ro,(r:Int),(c:Int),())) r
    ((grid r c (fun a b=>if a < r then sclr g u k a b else g a b)).map ro,()) (fun i hi=>by
      have ha:=at_grid (r:=r) (c:=c) (g:=fun a b=>if a < i then sclr g u k a b else g a b) (x:=(r:Int)) (show r≤1000 by omega) (show c≤1000 by omega) hi hk
      rw[if_neg (Nat.lt_irrefl i)] at ha
      simp only[S_spec_l07Clear_mdd_0,dlt hi,cond_true,ha,Option.bind_some]
      have same:(∀ b,sclr g u k i b=g i b)→grid r c (fun a b=>if a < i+1 then sclr g u k a b else g a b)=grid r c (fun a b=>if a < i then sclr g u k a b else g a b):=fun h=>grid_congr fun a b _ _=>by
        by_cases h1:a < i
        · rw[if_pos h1,if_pos (by omega)]
        · rw[if_neg h1]
          by_cases h2:a=i
          · subst h2; rw[if_pos (by omega),h]
          · rw[if_neg (by omega)]
      by_cases hiu:i=u
      · subst hiu
        rw[same (fun b=>by unfold sclr; rw[if_neg (fun h=>h.1 rfl)])]
        simp only[beq_self_eq_true,cond_true,succ_wrap hi (show r≤1048576 by omega)]
      · have hb:((i:Int)==(u:Int))=false:=by
          rw[beq_eq_false_iff_ne]; omega
        simp only[hb,cond_false,nil_ro]
        by_cases h0:g i k=some 0∨g i k=none
        · rw[decide_eq_true h0,Option.bind_some,cond_true,same (fun b=>by unfold sclr; rw[if_neg (fun h=>h.2.1 h0)])]
          simp only[succ_wrap hi (show r≤1048576 by omega)]
        · rw [decide_eq_false h0,Option.bind_some,cond_false]
          have h1:=sel_clear1 (k:=k) (g:=fun a b=>if a < i then sclr g u k a b else g a b) hr hc (fun a b h1 h2=>by
            show Oks (if a < i then sclr g u k a b else g a b)
            split
            · exact oks_sclr (hg a b h1 h2)
            · exact hg a b h1 h2) hi hu hiu (hg i k hi hk)
          rw[h1,Option.bind_some]
          simp only[succ_wrap hi (show r≤1048576 by omega)]
          rw[grid_congr (r:=r) (c:=c) (h:=fun a b=>if a < i+1 then sclr g u k a b else g a b) (fun a b _ _=>?_)]
          by_cases h2:a=i
          · subst h2
            have hsu:(if u < a then sclr g u k u b else g u b)=g u b:=by
              split
              · unfold sclr; rw[if_neg (fun h=>h.1 rfl)]
              · rfl
            rw[if_pos (show a < a+1 by omega),if_neg (Nat.lt_irrefl a),hsu]
            unfold sclr
            by_cases h3:k≤b
            · rw[if_pos ⟨rfl,h3⟩,if_pos ⟨hiu,h0,h3⟩]
            · rw[if_neg (fun h=>h3 h.2),if_neg (fun h=>h3 h.2.2)]
          · rw[if_neg (fun h=>h2 h.1)]
            have:(a < i+1)=(a < i):=by rw[eq_iff_iff]; omega
            simp only[this]) (by simp[S_spec_l07Clear_mdd_0])
  rw[grid_congr (r:=r) (c:=c) (g:=fun a b=>if a < r then sclr g u k a b else g a b) (h:=sclr g u k) (fun a b h _=>if_pos h)] at key
  refine (congrArg (fun x=>Option.bind x _) (Eq.trans ?_ key)).trans ?_
  · rw[grid_congr (r:=r) (c:=c) (g:=fun a b=>if a < 0 then sclr g u k a b else g a b) (h:=g) (fun a b _ _=>if_neg (by omega))]; rfl
  · rfl
end
/-! ### Rounds -/
structure ES where
  g:Nat→Nat→Option Rat
  pv:List Int
  fs:List (Option Rat)
noncomputable def allG (r c:Nat) (g:Nat→Nat→Option Rat):Bool:=(grid r c g).all Option.isSome
theorem allG_iff {r c:Nat} {g:Nat→Nat→Option Rat}:allG r c g=true↔∀ i k,i < r→k < c→(g i k).isSome=true:=by
  unfold allG
  rw[List.all_eq_true]
  constructor
  · intro h i k hi hk; exact h _ (List.mem_of_getElem? (grid_get g hi hk))
  · intro h o ho
    obtain ⟨i,k,hi,hk,rfl⟩:=grid_mem ho
    exact h i k hi hk
noncomputable def stepE (r c k:Nat) (s:ES):Option ES :=
  if s.pv.length < r then
    let p:=pivR s.g k (r - s.pv.length) s.pv.length
    if p=r then some s else
      let g1:=swp s.g p s.pv.length
      let g2:=dvd g1 s.pv.length k
      let g3:=clr g2 s.pv.length k
      cond (allG r c g2 && allG r c g3) (some ⟨g3,s.pv++[(k:Int)],(s.fs++if p≠s.pv.length then [some (-1)] else [])++[g1 s.pv.length k]⟩) none
  else some s
noncomputable def elim (r c:Nat) (g:Nat→Nat→Option Rat):Nat→Option ES
  | 0=>some ⟨g,[],[]⟩
  | k+1=>(elim r c g k).bind (stepE r c k)
structure EInv (r c k:Nat) (s:ES):Prop where
  good:Good2 r c s.g
  used:s.pv.length≤r
  few:s.pv.length≤k
  zero:∀ i j,s.pv.length≤i→i < r→j < k→j < c→s.g i j=some 0
  fsok:∀ o∈s.fs,Oks o
  fsall:∀ o∈s.fs,o.isSome=true
  fslen:s.fs.length≤2 * k
theorem divO_zero {y:Rat} (hy:y≠0):divO (some 0) (some y)=some 0:=by
  show (if y=0 then none else chk (0 / y))=_
  rw[if_neg hy,Rat.div_def,Rat.zero_mul,chk_fit fit_zero]
theorem divO_self {y:Rat} (hy:y≠0):divO (some y) (some y)=some 1:=by
  show (if y=0 then none else chk (y / y))=_
  rw[if_neg hy,Rat.div_def,Rat.mul_inv_cancel _ hy,chk_fit fit_one]
theorem mulO_one {o:Option Rat} (h:Oks o):mulO o (some 1)=o:=by
  cases o with
  | none=>rfl
  | some q =>
    show chk (q * 1)=some q
    rw[Rat.mul_one,chk_fit (h q rfl)]
theorem subO_self {x:Rat}:subO (some x) (some x)=some 0:=by
  show chk (x + -x)=some 0
  rw[← Rat.sub_eq_add_neg,Rat.sub_self,chk_fit fit_zero]
theorem subO_zero {o:Option Rat} (h:Oks o):subO o (some 0)=o:=by
  cases o with
  | none=>rfl
  | some q =>
    show chk (q + -0)=some q
    rw[show (-0:Rat)=0 from rfl,Rat.add_zero,chk_fit (h q rfl)]
section
variable {r c:Nat} {g:Nat→Nat→Option Rat} {k u p:Nat}
theorem swp_good (hg:Good2 r c g) (hp:p < r) (hu:u < r):Good2 r c (swp g p u):=fun i k hi hk=>by
  unfold swp
  split
  · exact hg u k hu hk
  · split
    · exact hg p k hp hk
    · exact hg i k hi hk
theorem swp_zero (hu:u < r) (hp:p < r) (hup:u≤p) (hz:∀ i j,u≤i→i < r→j < k→j < c→g i j=some 0):∀ i j,u≤i→i < r→j < k→j < c→swp g p u i j=some 0:=fun i j h1 h2 h3 h4=>by
  unfold swp
  split
  · exact hz u j (Nat.le_refl u) hu h3 h4
  · split
    · exact hz p j hup hp h3 h4
    · exact hz i j h1 h2 h3 h4
theorem oks_dvd (hg:Good2 r c g) {a b:Nat} (ha:a < r) (hb:b < c):Oks (dvd g u k a b):=by
  unfold dvd
  split
  · exact oks_divO
  · exact (hg a b ha hb).1
theorem oks_clr (h:∀ i k,i < r→k < c→Oks (g i k)) {a b:Nat} (ha:a < r) (hb:b < c):Oks (clr g u k a b):=by
  unfold clr
  split
  · rename_i e; subst e; exact h _ b ha hb
  · split
    · exact h a b ha hb
    · exact oks_subO
theorem dvd_part (hk:k < c) (hz:∀ j,j < k→g u j=some 0) {y:Rat} (hy:g u k=some y) (h0:y≠0) (a b:Nat) :
    (if a=u∧k≤b then divO (g u b) (g u k) else g a b)=dvd g u k a b:=by
  unfold dvd
  by_cases h1:a=u
  · subst h1
    rw[if_pos rfl]
    by_cases h2:k≤b
    · rw[if_pos ⟨rfl,h2⟩]
    · rw[if_neg (fun h=>h2 h.2),hz b (by omega),hy,divO_zero h0]
  · rw[if_neg (fun h=>h1 h.1),if_neg h1]
theorem sclr_clr (hg:∀ i j,i < r→j < c→Oks (g i j)) (hall:∀ i j,i < r→j < c→(g i j).isSome=true) (hu:u < r) (hk:k < c) (hz:∀ j,j < k→g u j=some 0) {a b:Nat} (ha:a < r) (hb:b < c) :
    sclr g u k a b=clr g u k a b:=by
  unfold sclr clr
  by_cases h1:a=u
  · rw[if_neg (fun h=>h.1 h1),if_pos h1,h1]
  · rw [if_neg h1]
    have hn:g a k≠none:=fun h=>by have:=hall a k ha hk; rw[h] at this; cases this
    by_cases h2:g a k=some 0
    · rw[if_neg (fun h=>h.2.1 (.inl h2)),if_pos h2]
    · rw [if_neg h2]
      have h3:¬ (g a k=some 0∨g a k=none):=by rintro (h | h); exact h2 h; exact hn h
      have hz0:g u b=some 0→subO (g a b) (mulO (g a k) (g u b))=g a b:=fun e=>by
        obtain ⟨x,hx⟩:=Option.ne_none_iff_exists'.1 hn
        rw[e,hx,mulO_zero_r,subO_zero (hg a b ha hb)]
      by_cases h4:k≤b
      · rw[if_pos ⟨h1,h3,h4⟩]
        unfold sub1
        have hnu:g u b≠none:=fun h=>by have:=hall u b hu hb; rw[h] at this; cases this
        by_cases h5:g u b=some 0
        · rw[if_pos (.inl h5),hz0 h5]
        · rw[if_neg (by rintro (h | h); exact h5 h; exact hnu h)]
      · rw[if_neg (fun h=>h4 h.2.2),hz0 (hz b (by omega))]
theorem step_inv {s s':ES} (h:EInv r c k s) (hk:k < c) (e:stepE r c k s=some s'):EInv r c (k+1) s':=by
  unfold stepE at e
  split at e
  · rename_i hur
    obtain ⟨pl,ph⟩:=pivR_le s.g k (r - s.pv.length) s.pv.length
    generalize hpe:pivR s.g k (r - s.pv.length) s.pv.length=p at *
    simp only at e
    split at e
    · rename_i hpr
      injection e with e; subst e
      refine ⟨h.good,h.used,by have:=h.few; omega,fun i j h1 h2 h3 h4=>?_,h.fsok,h.fsall,by have:=h.fslen; omega⟩
      by_cases hj:j=k
      · subst hj; exact pivR_zero s.g j _ _ i h1 (by rw[hpe]; omega)
      · exact h.zero i j h1 h2 (by omega) h4
    · rename_i hpr
      have hp:p < r:=by omega
      have hne:s.g p k≠some 0:=by rw[← hpe]; exact pivR_ne s.g k _ _ (by rw[hpe]; omega)
      have g1:=swp_good (u:=s.pv.length) h.good hp hur
      have z1:=swp_zero (c:=c) hur hp pl h.zero
      have e1:swp s.g p s.pv.length s.pv.length k=s.g p k:=by
        unfold swp
        split
        · rename_i e; rw[e]
        · rw[if_pos rfl]
      generalize swp s.g p s.pv.length=gg at *
      generalize hu:s.pv.length=u at *
      cases hall:(allG r c (dvd gg u k) && allG r c (clr (dvd gg u k) u k)) with
      | false=>rw[hall] at e; cases e
      | true =>
        rw[hall] at e
        injection e with e; subst e
        rw[Bool.and_eq_true] at hall
        have a2:=allG_iff.1 hall.1
        have a3:=allG_iff.1 hall.2
        have o2:∀ i j,i < r→j < c→Oks (dvd gg u k i j):=fun i j hi hj=>oks_dvd g1 hi hj
        obtain ⟨y,hy⟩:=Option.isSome_iff_exists.1 (g1 u k hur hk).2
        have hy0:y≠0:=fun e0=>hne (by rw[← e1,hy,e0])
        have hzu:∀ j,j < k→dvd gg u k u j=some 0:=fun j hj=>by
          unfold dvd; rw[if_pos rfl,z1 u j (Nat.le_refl u) hur hj (by omega),hy,divO_zero hy0]
        have hone:dvd gg u k u k=some 1:=by unfold dvd; rw[if_pos rfl,hy,divO_self hy0]
        refine ⟨fun i j hi hj=>⟨oks_clr o2 hi hj,a3 i j hi hj⟩,?_,?_,fun i j h1 h2 h3 h4=>?_,fun o ho=>?_,fun o ho=>?_,?_⟩
        · simp[hu]; omega
        · have:=h.few; simp[hu] at this ⊢; omega
        · simp only[List.length_append,List.length_singleton,hu] at h1
          show clr (dvd gg u k) u k i j=some 0
          have hd:dvd gg u k i j=gg i j:=by unfold dvd; rw[if_neg (by omega)]
          have hdk:dvd gg u k i k=gg i k:=by unfold dvd; rw[if_neg (by omega)]
          unfold clr
          rw[if_neg (by omega),hd,hdk]
          obtain ⟨x,hx⟩:=Option.isSome_iff_exists.1 (g1 i k h2 hk).2
          by_cases hj:j=k
          · subst hj
            split
            · assumption
            · rw[hone,hx,mulO_one ((g1 i j h2 hk).1 |> fun h=>by rw[hx] at h; exact h),subO_self]
          · rw[z1 i j (by omega) h2 (by omega) h4,hzu j (by omega)]
            split
            · rfl
            · rw[hx,mulO_zero_r]; exact subO_zero fit_zero.ok
        · rcases List.mem_append.1 ho with ho | ho
          · rcases List.mem_append.1 ho with ho | ho
            · exact h.fsok o ho
            · split at ho
              · rw[List.mem_singleton.1 ho]
                have:=fit_int (n := -1) (by omega) (by omega)
                exact (show Fit (-1:Rat) by simpa using this).ok
              · cases ho
          · rw[List.mem_singleton.1 ho]; exact (g1 u k hur hk).1
        · rcases List.mem_append.1 ho with ho | ho
          · rcases List.mem_append.1 ho with ho | ho
            · exact h.fsall o ho
            · split at ho
              · rw[List.mem_singleton.1 ho]; rfl
              · cases ho
          · rw[List.mem_singleton.1 ho]; exact (g1 u k hur hk).2
        · have:=h.fslen
          have:(if p≠u then [some (-1:Rat)] else []).length≤1:=by split<;>simp
          simp only[List.length_append,List.length_singleton]; omega
  · rename_i hur
    injection e with e; subst e
    refine ⟨h.good,h.used,by have:=h.few; omega,fun i j h1 h2 h3 h4=>by omega,h.fsok,h.fsall,by have:=h.fslen; omega⟩
theorem elim_inv (hg:Good2 r c g):∀ {k:Nat} {s:ES},k≤c→elim r c g k=some s→EInv r c k s:=by
  intro k
  induction k with
  | zero =>
    intro s _ e
    injection e with e; subst e
    exact ⟨hg,Nat.zero_le _,Nat.le_refl _,fun i j _ _ h _=>by omega,fun o ho=>(by cases ho),fun o ho=>(by cases ho),Nat.le_refl _⟩
  | succ k ih =>
    intro s hk e
    unfold elim at e
    cases h0:elim r c g k with
    | none=>rw[h0] at e; cases e
    | some s0 =>
      rw[h0] at e
      exact step_inv (ih (by omega) h0) (by omega) e
end
end Go.Di
namespace Go.Di
section
variable {r c:Nat} {g:Nat→Nat→Option Rat} {k:Nat}
noncomputable def sst (r c k:Nat) (s:ES):Int × Int × Int × (List Rt) × (List Int) × (List Rt) × Unit:=((k:Int),(r:Int),(c:Int),(grid r c s.g).map ro,s.pv,s.fs.map ro,())
theorem spec_step {s:ES} (hr:r≤24) (hc:c≤200) (h:EInv r c k s) (hk:k < c) (hur:s.pv.length < r) :
    (∃ s',stepE r c k s=some s'∧S_spec_l07Reduce_m_0 (sst r c k s)=some (.inl (sst r c (k+1) s'))) ∨
    (stepE r c k s=none∧∃ lo pv fs,lo.length=r * c∧lo.all Option.isSome=false∧S_spec_l07Reduce_m_0 (sst r c k s)=some (.inr (.inl (List.map ro lo,pv,fs,())))):=by
  unfold stepE
  rw[if_pos hur]
  obtain ⟨pl,ph⟩:=pivR_le s.g k (r - s.pv.length) s.pv.length
  have hfind:=sel_find (u:=s.pv.length) hr hc h.good hk (Nat.le_of_lt hur) s.pv.length s.pv (s.fs.map ro)
  have hne:pivR s.g k (r - s.pv.length) s.pv.length < s.pv.length+(r - s.pv.length)→s.g (pivR s.g k (r - s.pv.length) s.pv.length) k≠some 0:=pivR_ne s.g k _ _
  generalize pivR s.g k (r - s.pv.length) s.pv.length=p at *
  simp only
  have hdec:decide ((s.pv.length:Int) < (r:Int))=true:=decide_eq_true (by omega)
  have fl1:guardO (Nat.ble ((s.fs.map ro).length+1) maxNew)=some ():=room1 (by rw[List.length_map]; have:=h.fslen; omega)
  have fl2:guardO (Nat.ble ((s.fs.map ro++[ro (some (-1))]).length+1) maxNew)=some ():=room1 (by rw[List.length_append,List.length_map]; have:=h.fslen; simp; omega)
  have pl1:guardO (Nat.ble (s.pv.length+1) maxNew)=some ():=room1 (by omega)
  by_cases hpr:p=r
  · subst hpr
    left
    rw[if_pos rfl]
    refine ⟨s,rfl,?_⟩
    unfold sst
    simp only[S_spec_l07Reduce_m_0,dlt hk,cond_true,hdec,hfind,Option.bind_some,beq_self_eq_true,succ_wrap hk (show c≤1048576 by omega)]
  · rw [if_neg hpr]
    have hp:p < r:=by omega
    have hne:=hne (by omega)
    have g1:=swp_good (u:=s.pv.length) h.good hp hur
    have z1:=swp_zero (c:=c) hur hp pl h.zero
    have e1:swp s.g p s.pv.length s.pv.length k=s.g p k:=by
      unfold swp
      split
      · rename_i e; rw[e]
      · rw[if_pos rfl]
    have hself:p=s.pv.length→swp s.g p s.pv.length=s.g:=fun e=>by
      subst e; funext a b; unfold swp; split
      · rename_i h; rw[h]
      · rfl
    have hsw:=sel_swap (g:=s.g) (r:=r) (c:=c) hr hc hp hur (k:Int) s.pv (s.fs.map ro++[ro (some (-1))])
    generalize swp s.g p s.pv.length=gg at *
    obtain ⟨y,hy⟩:=Option.isSome_iff_exists.1 (g1 s.pv.length k hur hk).2
    have hy0:y≠0:=fun e0=>hne (by rw[← e1,hy,e0])
    have hbeq:((p:Int)==(r:Int))=false:=by rw[beq_eq_false_iff_ne]; omega
    have hat:=at_grid (r:=r) (c:=c) (g:=gg) (x:=(r:Int)) (show r≤1000 by omega) (show c≤1000 by omega) hur hk
    have hdivl:∀ fs:List Rt,L_spec_l07Reduce_m_3 k s.pv.length k r c ((grid r c gg).map ro) (ro (gg s.pv.length k)).neg (ro (gg s.pv.length k)).mag (ro (gg s.pv.length k)).den fs s.pv=some ((k:Int),(s.pv.length:Int),(r:Int),(c:Int),(grid r c (dvd gg s.pv.length k)).map ro,fs,s.pv,()):=fun fs=>by
      rw[sel_div hr hc g1 hk hur]
      rw[grid_congr (r:=r) (c:=c) (h:=dvd gg s.pv.length k) (fun a b _ _=>dvd_part hk (fun j hj=>z1 _ j (Nat.le_refl _) hur hj (by omega)) hy hy0 a b)]
    have o2:∀ i j,i < r→j < c→Oks (dvd gg s.pv.length k i j):=fun i j hi hj=>oks_dvd g1 hi hj
    have hcl:=sel_clear (g:=dvd gg s.pv.length k) hr hc o2 hur hk
    have hfine:=spec_fine (l:=grid r c (sclr (dvd gg s.pv.length k) s.pv.length k)) (by rw[len_grid]; have:r * c≤24 * 200:=Nat.mul_le_mul hr hc; omega)
    -- what is put at the end of the factors
    have hS:S_spec_l07Reduce_m_0 (sst r c k s)=cond (!(grid r c (sclr (dvd gg s.pv.length k) s.pv.length k)).all Option.isSome)
        (some (.inr (.inl ((grid r c (sclr (dvd gg s.pv.length k) s.pv.length k)).map ro,s.pv++[(k:Int)],((s.fs++if p≠s.pv.length then [some (-1)] else [])++[gg s.pv.length k]).map ro,()))))
        (some (.inl (((k+1:Nat):Int),(r:Int),(c:Int),(grid r c (sclr (dvd gg s.pv.length k) s.pv.length k)).map ro,s.pv++[(k:Int)],((s.fs++if p≠s.pv.length then [some (-1)] else [])++[gg s.pv.length k]).map ro,()))):=by
      by_cases hpu:p=s.pv.length
      · have hbne:((p:Int) != (s.pv.length:Int))=false:=by rw[hpu]; simp
        rw[if_neg (fun h=>h hpu),List.append_nil,List.map_append,List.map_singleton]
        have hg:=hself hpu
        unfold sst
        simp only[S_spec_l07Reduce_m_0,dlt hk,cond_true,hdec,hfind,Option.bind_some,hbeq,cond_false,hbne]
        rw[← hg]
        simp only[hat,Option.bind_some,fl1,hdivl,hcl,pl1,hfine,succ_wrap hk (show c≤1048576 by omega)]
      · have hbne:((p:Int) != (s.pv.length:Int))=true:=by
          rw[bne_iff_ne]; omega
        have hm1:M_spec_RatFromInt (-1)=some (ro (some (-1))):=by
          have:=spec_ratInt (n := -1) (by omega) (by omega)
          rw[this]; simp
        rw[if_pos hpu,List.map_append,List.map_append,List.map_singleton,List.map_singleton]
        unfold sst
        simp only[S_spec_l07Reduce_m_0,dlt hk,cond_true,hdec,hfind,Option.bind_some,hbeq,cond_false,hbne,hm1,fl1,hsw,hat,fl2,hdivl,hcl,pl1,hfine,succ_wrap hk (show c≤1048576 by omega)]
    cases h2:allG r c (dvd gg s.pv.length k) with
    | false =>
      right
      refine ⟨by rw[Bool.false_and]; rfl,?_⟩
      have hbad:(grid r c (sclr (dvd gg s.pv.length k) s.pv.length k)).all Option.isSome=false:=by
        rw[← Bool.not_eq_true]
        intro ha
        have ha:=allG_iff.1 ha
        rw[← Bool.not_eq_true] at h2
        apply h2
        rw[allG_iff]
        intro i j hi hj
        by_cases hiu:i=s.pv.length
        · have:=ha i j hi hj
          unfold sclr at this
          rw[if_neg (fun h=>h.1 hiu)] at this
          exact this
        · unfold dvd; rw[if_neg hiu]; exact (g1 i j hi hj).2
      rw[hbad] at hS
      exact ⟨_,_,_,len_grid ..,hbad,hS⟩
    | true =>
      have a2:=allG_iff.1 h2
      have hzu:∀ j,j < k→dvd gg s.pv.length k s.pv.length j=some 0:=fun j hj=>by
        unfold dvd; rw[if_pos rfl,z1 _ j (Nat.le_refl _) hur hj (by omega),hy,divO_zero hy0]
      have hcc:grid r c (sclr (dvd gg s.pv.length k) s.pv.length k)=grid r c (clr (dvd gg s.pv.length k) s.pv.length k):=grid_congr fun a b ha hb=>sclr_clr o2 a2 hur hk hzu ha hb
      rw[hcc] at hS
      rw[Bool.true_and]
      cases h3:allG r c (clr (dvd gg s.pv.length k) s.pv.length k) with
      | false =>
        right
        have h3':(grid r c (clr (dvd gg s.pv.length k) s.pv.length k)).all Option.isSome=false:=h3
        rw[h3'] at hS
        exact ⟨rfl,_,_,_,len_grid ..,h3',hS⟩
      | true =>
        left
        have h3':(grid r c (clr (dvd gg s.pv.length k) s.pv.length k)).all Option.isSome=true:=h3
        rw[h3'] at hS
        exact ⟨_,rfl,hS⟩
theorem elim_stay {k0:Nat} {s:ES} (h:elim r c g k0=some s) (hu:¬ s.pv.length < r):∀ j,elim r c g (k0+j)=some s
  | 0=>h
  | j+1=>by
    show (elim r c g (k0+j)).bind _=_
    rw[elim_stay h hu j]
    show stepE r c (k0+j) s=some s
    unfold stepE; rw[if_neg hu]
theorem elim_none {k0:Nat} (h:elim r c g k0=none):∀ j,elim r c g (k0+j)=none
  | 0=>h
  | j+1=>by
    show (elim r c g (k0+j)).bind _=_
    rw[elim_none h j]; rfl
theorem spec_elim (hr:r≤24) (hc:c≤200) (hg:Good2 r c g):∀ n k s,k+n=c→elim r c g k=some s →
    (∃ f,elim r c g c=some f∧whileO S_spec_l07Reduce_m_0 (sst r c k s)=some (.inr ((grid r c f.g).map ro,f.pv,f.fs.map ro,()))) ∨
    (elim r c g c=none∧∃ lo pv fs,lo.length=r * c∧lo.all Option.isSome=false∧whileO S_spec_l07Reduce_m_0 (sst r c k s)=some (.inl (List.map ro lo,pv,fs,()))):=by
  intro n
  induction n with
  | zero =>
    intro k s hk e
    have:k=c:=by omega
    subst this
    left
    refine ⟨s,e,whileO_inr ?_⟩
    unfold sst
    simp[S_spec_l07Reduce_m_0]
  | succ n ih =>
    intro k s hk e
    have hkc:k < c:=by omega
    have hi:=elim_inv hg (Nat.le_of_lt hkc) e
    by_cases hu:s.pv.length < r
    · rcases spec_step hr hc hi hkc hu with ⟨s',e1,e2⟩ | ⟨e1,lo,pv,fs,l1,l2,e2⟩
      · rw[whileO_inl e2]
        exact ih (k+1) s' (by omega) (by unfold elim; rw[e]; exact e1)
      · right
        refine ⟨?_,lo,pv,fs,l1,l2,whileO_inr e2⟩
        have:elim r c g (k+1)=none:=by unfold elim; rw[e]; exact e1
        have:=elim_none this n
        rw[show k+1+n=c by omega] at this
        exact this
    · left
      have:=elim_stay e hu (n+1)
      rw[hk] at this
      refine ⟨s,this,whileO_inr ?_⟩
      unfold sst
      simp only[S_spec_l07Reduce_m_0,dlt hkc,cond_true,decide_eq_false (show ¬ (s.pv.length:Int) < (r:Int) by omega),cond_false]
theorem spec_reduce (hr:r≤24) (hc:c≤200) (hg:Good2 r c g) :
    (∃ f,elim r c g c=some f∧M_spec_l07Reduce_m ⟨r,c,(grid r c g).map ro⟩=some (f.pv,f.fs.map ro,(grid r c f.g).map ro)) ∨
    (elim r c g c=none∧∃ lo pv fs,lo.length=r * c∧lo.all Option.isSome=false∧M_spec_l07Reduce_m ⟨r,c,(grid r c g).map ro⟩=some (pv,fs,List.map ro lo)):=by
  rcases spec_elim hr hc hg c 0 ⟨g,[],[]⟩ (by omega) rfl with ⟨f,e1,e2⟩ | ⟨e1,lo,pv,fs,l1,l2,e2⟩
  · left
    refine ⟨f,e1,?_⟩
    unfold M_spec_l07Reduce_m L_spec_l07Reduce_m_0
    exact congrArg (fun x=>Option.bind x _) e2
  · right
    refine ⟨e1,lo,pv,fs,l1,l2,?_⟩
    unfold M_spec_l07Reduce_m L_spec_l07Reduce_m_0
    exact congrArg (fun x=>Option.bind x _) e2
end
end Go.Di
namespace Go.Di
theorem zero_ro (o:Option Rat):M_impl_isZero (ro o)=some (decide (o=some 0∨o=none)):=nil_ro o
theorem row_md {r c:Nat} {xs:List Rt} (hr:r≤24) (hc:c≤200) (hl:xs.length=r * c) {i:Nat} (hi:i < r) (x:Int) :
    M_impl_Matrix_row_md ⟨x,c,xs⟩ i=some ((i * c,c),xs):=by
  have h1:i * c≤24 * 200:=Nat.mul_le_mul (by omega) hc
  have h2:(i+1) * c≤24 * 200:=Nat.mul_le_mul (by omega) hc
  have h3:(i+1) * c≤r * c:=Nat.mul_le_mul_right c hi
  have e1:IntKind.i64.wrap ((i:Int) * (c:Int))=((i * c:Nat):Int):=by
    rw[show ((i:Int) * (c:Int))=((i * c:Nat):Int) by simp]; exact wrap_i64 (by omega) (by omega)
  have e0:IntKind.i64.wrap ((i:Int)+1)=((i+1:Nat):Int):=by
    rw[wrap_i64 (by omega) (by omega)]; omega
  have e2:IntKind.i64.wrap (((i+1:Nat):Int) * (c:Int))=(((i+1) * c:Nat):Int):=by
    rw[show (((i+1:Nat):Int) * (c:Int))=(((i+1) * c:Nat):Int) by simp]; exact wrap_i64 (by omega) (by omega)
  have h4:(i+1) * c=i * c+c:=by rw[Nat.add_mul,Nat.one_mul]
  unfold M_impl_Matrix_row_md
  simp only[e0,e1,e2,Int.toNat_natCast]
  have hin:inside xs.length (((i * c:Nat):Int),(((i+1) * c:Nat):Int))=true:=by
    unfold inside
    simp only[Bool.and_eq_true,decide_eq_true_iff]
    omega
  rw[hin,show (i+1) * c - i * c=c by omega]; rfl
theorem idx_cut {α:Type} {xs:List α} {lo len k:Nat} (hk:k < len) (h:lo+len≤xs.length):idx (cut xs lo (lo+len)) (k:Int)=xs[lo+k]? := by
  rw[idx_nat]; unfold cut
  rw[List.getElem?_drop,List.getElem?_take_of_lt (by omega)]
theorem idx_rowG {r c:Nat} {g:Nat→Nat→Option Rat} {i k:Nat} (hi:i < r) (hk:k < c):idx (cut ((grid r c g).map ro) (i * c) (i * c+c)) (k:Int)=some (ro (g i k)):=by
  rw[idx_cut hk (by rw[List.length_map,len_grid,← Nat.succ_mul]; exact Nat.mul_le_mul_right c hi),get_grid hi hk]
theorem row_cut {r c:Nat} {g:Nat→Nat→Option Rat} {i:Nat} (hi:i < r):cut ((grid r c g).map ro) (i * c) (i * c+c)=((List.range c).map (g i)).map ro:=by
  apply List.ext_getElem?
  intro k
  by_cases hk:k < c
  · have h1:=idx_rowG (g:=g) hi hk
    rw[idx_nat] at h1
    rw[h1]
    simp[hk]
  · rw[List.getElem?_eq_none,List.getElem?_eq_none]
    · simp; omega
    · unfold cut; simp; omega
theorem row_all {r c:Nat} {g:Nat→Nat→Option Rat} {i:Nat} (hi:i < r) (hc:c≤200):M_impl_complete (cut ((grid r c g).map ro) (i * c) (i * c+c))=some (((List.range c).map (g i)).all Option.isSome):=by
  rw[row_cut hi,impl_complete (by simp; omega)]
section
variable {r c:Nat} {g:Nat→Nat→Option Rat} {k u:Nat}
theorem iel_find (hr:r≤24) (hc:c≤200) (hg:Good2 r c g) (hk:k < c) (hu:u≤r) (n v v1 v5 v6:Int) (v2 v4 fs:List Rt) (v3 pv:List Int) :
    L_impl_reduce_1 n k u v v1 v2 v3 v4 v5 v6 r c ((grid r c g).map ro) pv fs=some (n,(k:Int),((pivR g k (r - u) u:Nat):Int),v,v1,v2,v3,v4,v5,v6,(r:Int),(c:Int),(grid r c g).map ro,pv,fs,()):=by
  unfold L_impl_reduce_1
  have key : ∀ s i,i+s=r→whileO S_impl_reduce_1 (n,(k:Int),(i:Int),v,v1,v2,v3,v4,v5,v6,(r:Int),(c:Int),(grid r c g).map ro,pv,fs,())=some (n,(k:Int),((pivR g k s i:Nat):Int),v,v1,v2,v3,v4,v5,v6,(r:Int),(c:Int),(grid r c g).map ro,pv,fs,()):=by
    intro s
    induction s with
    | zero =>
      intro i hi
      apply whileO_inr
      simp[S_impl_reduce_1,pivR,show i=r by omega]
    | succ s ih =>
      intro i hi
      have hir:i < r:=by omega
      by_cases h0:g i k=some 0
      · rw [whileO_inl (y:=(n,(k:Int),((i+1:Nat):Int),v,v1,v2,v3,v4,v5,v6,(r:Int),(c:Int),(grid r c g).map ro,pv,fs,()))]
        · rw[ih (i+1) (by omega),pivR,if_pos h0]
        · simp only[S_impl_reduce_1,dlt hir,cond_true,at_grid' (show r≤1000 by omega) (show c≤1000 by omega) hir hk,Option.bind_some,zero_ro,h0,succ_wrap hir (show r≤1048576 by omega)]
          simp
      · apply whileO_inr
        have hsm:=(hg i k hir hk).2
        have hn:¬ (g i k=some 0∨g i k=none):=by
          rintro (h | h)
          · exact h0 h
          · rw[h] at hsm; cases hsm
        simp only[S_impl_reduce_1,dlt hir,cond_true,at_grid' (show r≤1000 by omega) (show c≤1000 by omega) hir hk,Option.bind_some,zero_ro,decide_eq_false hn,cond_false,pivR,if_neg h0]
  exact key (r - u) u (by omega)
theorem iel_swap (hc:c≤200) {p:Nat} (hp:p < r) (hu:u < r) (n k0 v v1 v5 v6:Int) (v2 v4 fs:List Rt) (v3 pv:List Int) :
    L_impl_reduce_2 n k0 (p * c) c (u * c) c c 0 v v1 v2 v3 v4 v5 v6 r c ((grid r c g).map ro) fs pv =
      some (n,k0,v,v1,v2,v3,v4,v5,v6,(r:Int),(c:Int),(grid r c (swp g p u)).map ro,fs,pv,()):=by
  unfold L_impl_reduce_2
  have key := whileO_upto S_impl_reduce_2 (fun j=>(n,k0,p * c,c,u * c,c,(c:Int),(j:Int),v,v1,v2,v3,v4,v5,v6,(r:Int),(c:Int),(grid r c (fun a b=>if b < j then swp g p u a b else g a b)).map ro,fs,pv,())) c
    (n, k0, v,v1,v2,v3,v4,v5,v6,(r:Int),(c:Int),(grid r c (fun a b=>if b < c then swp g p u a b else g a b)).map ro,fs,pv,()) (fun j hj=>by
      have s1:=set_grid (r:=r) (c:=c) (g:=fun a b=>if b < j then swp g p u a b else g a b) (h:=fun a b=>if a=p∧b=j then g u j else if b < j then swp g p u a b else g a b) (o:=g u j) hp hj (fun a b _ _=>rfl)
      have s2:=set_grid (r:=r) (c:=c) (g:=fun a b=>if a=p∧b=j then g u j else if b < j then swp g p u a b else g a b) (h:=fun a b=>if b < j+1 then swp g p u a b else g a b) (o:=g p j) hu hj (fun a b _ _=>by
        unfold swp
        by_cases hb:b=j
        · subst hb
          by_cases h1:a=u
          · subst h1
            by_cases h2:a=p
            · subst h2; simp
            · simp[h2]
          · by_cases h2:a=p
            · subst h2; simp[h1]
            · simp[h1,h2]
        · have:(b < j+1)=(b < j):=by rw[eq_iff_iff]; omega
          simp[hb,this])
      simp only[S_impl_reduce_2,dlt hj,cond_true,idx_rowG hp hj,idx_rowG hu hj,Int.toNat_natCast,get_grid hp hj,get_grid hu hj,Option.bind_some,Nat.lt_irrefl,if_false,s1,s2,succ_wrap hj (show c≤1048576 by omega)]) (by simp[S_impl_reduce_2])
  refine Eq.trans ?_ (key.trans ?_)
  · rw[grid_congr (r:=r) (c:=c) (g:=fun a b=>if b < 0 then swp g p u a b else g a b) (h:=g) (fun a b _ _=>by simp)]; rfl
  · rw[grid_congr (r:=r) (c:=c) (g:=fun a b=>if b < c then swp g p u a b else g a b) (h:=swp g p u) (fun a b _ hb=>by simp[hb])]
theorem iel_div (hc:c≤200) (hg:Good2 r c g) (hk:k < c) (hu:u < r) (n k0 v v1 v5 v6:Int) (v2 v4 fs:List Rt) (v3 pv:List Int) :
    L_impl_reduce_3 n k0 (u * c) c c 0 v v1 v2 v3 v4 v5 v6 r c (ro (g u k)).neg (ro (g u k)).mag (ro (g u k)).den ((grid r c g).map ro) fs pv =
      some (n,k0,u * c,c,v,v1,v2,v3,v4,v5,v6,(r:Int),(c:Int),(grid r c (dvd g u k)).map ro,fs,pv,()):=by
  unfold L_impl_reduce_3
  have key := whileO_upto S_impl_reduce_3 (fun j=>(n,k0,u * c,c,(c:Int),(j:Int),v,v1,v2,v3,v4,v5,v6,(r:Int),(c:Int),(ro (g u k)).neg,(ro (g u k)).mag,(ro (g u k)).den,(grid r c (fun a b=>if b < j then dvd g u k a b else g a b)).map ro,fs,pv,())) c
    (n, k0,u * c,c,v,v1,v2,v3,v4,v5,v6,(r:Int),(c:Int),(grid r c (fun a b=>if b < c then dvd g u k a b else g a b)).map ro,fs,pv,()) (fun j hj=>by
      have s1:=set_grid (r:=r) (c:=c) (g:=fun a b=>if b < j then dvd g u k a b else g a b) (h:=fun a b=>if b < j+1 then dvd g u k a b else g a b) (o:=divO (g u j) (g u k)) hu hj (fun a b _ _=>by
        unfold dvd
        by_cases hb:b=j
        · subst hb
          by_cases h1:a=u
          · subst h1; simp
          · simp[h1]
        · have:(b < j+1)=(b < j):=by rw[eq_iff_iff]; omega
          simp[hb,this])
      have hd:=impl_divO (hg u j hu hj).1 (hg u k hu hk).1
      simp only[S_impl_reduce_3,dlt hj,cond_true,idx_rowG hu hj,Int.toNat_natCast,get_grid hu hj,Option.bind_some,Nat.lt_irrefl,if_false]
      show ((M_impl_div (ro (g u j)) (ro (g u k))).bind _)=_
      simp only[hd,Option.bind_some,s1,succ_wrap hj (show c≤1048576 by omega)]) (by simp[S_impl_reduce_3])
  refine Eq.trans ?_ (key.trans ?_)
  · rw[grid_congr (r:=r) (c:=c) (g:=fun a b=>if b < 0 then dvd g u k a b else g a b) (h:=g) (fun a b _ _=>by simp)]; rfl
  · rw[grid_congr (r:=r) (c:=c) (g:=fun a b=>if b < c then dvd g u k a b else g a b) (h:=dvd g u k) (fun a b _ hb=>by simp[hb])]
theorem iel_clear1 (hc:c≤200) (hg:∀ i k,i < r→k < c→Oks (g i k)) {i:Nat} (hi:i < r) (hu:u < r) (hiu:i≠u) {f:Option Rat} (hf:Oks f) (n k0 t t1 v v1 v5 v6:Int) (v2 v4 fs:List Rt) (v3 pv:List Int) :
    L_impl_reduce_5 n k0 (u * c) c (i * c) c t t1 c 0 v v1 v2 v3 v4 v5 v6 r c (ro f).neg (ro f).mag (ro f).den ((grid r c g).map ro) fs pv =
      some (n,k0,u * c,c,i * c,c,t,t1,v,v1,v2,v3,v4,v5,v6,(r:Int),(c:Int),(grid r c (fun a b=>if a=i then subO (g i b) (mulO f (g u b)) else g a b)).map ro,fs,pv,()):=by
  unfold L_impl_reduce_5
  have key := whileO_upto S_impl_reduce_5 (fun j=>(n,k0,u * c,c,i * c,c,t,t1,(c:Int),(j:Int),v,v1,v2,v3,v4,v5,v6,(r:Int),(c:Int),(ro f).neg,(ro f).mag,(ro f).den,(grid r c (fun a b=>if a=i∧b < j then subO (g i b) (mulO f (g u b)) else g a b)).map ro,fs,pv,())) c
    (n, k0,u * c,c,i * c,c,t,t1,v,v1,v2,v3,v4,v5,v6,(r:Int),(c:Int),(grid r c (fun a b=>if a=i∧b < c then subO (g i b) (mulO f (g u b)) else g a b)).map ro,fs,pv,()) (fun j hj=>by
      have s1:=set_grid (r:=r) (c:=c) (g:=fun a b=>if a=i∧b < j then subO (g i b) (mulO f (g u b)) else g a b) (h:=fun a b=>if a=i∧b < j+1 then subO (g i b) (mulO f (g u b)) else g a b) (o:=subO (g i j) (mulO f (g u j))) hi hj (fun a b _ _=>by
        by_cases hb:b=j
        · subst hb
          by_cases h1:a=i
          · subst h1; simp
          · simp[h1]
        · have:(b < j+1)=(b < j):=by rw[eq_iff_iff]; omega
          simp[hb,this])
      have hui:u≠i:=fun e=>hiu e.symm
      simp only[S_impl_reduce_5,dlt hj,cond_true,idx_rowG hu hj,idx_rowG hi hj,Int.toNat_natCast,get_grid hu hj,get_grid hi hj,Option.bind_some,Nat.lt_irrefl,and_false,if_false,hui,false_and]
      show ((M_impl_mul (ro f) (ro (g u j))).bind _)=_
      simp only[impl_mulO hf (hg u j hu hj),Option.bind_some,impl_subO (hg i j hi hj) (oks_mulO (o:=f) (p:=g u j)),s1,succ_wrap hj (show c≤1048576 by omega)]) (by simp[S_impl_reduce_5])
  refine Eq.trans ?_ (key.trans ?_)
  · rw[grid_congr (r:=r) (c:=c) (g:=fun a b=>if a=i∧b < 0 then subO (g i b) (mulO f (g u b)) else g a b) (h:=g) (fun a b _ _=>by simp)]; rfl
  · rw[grid_congr (r:=r) (c:=c) (g:=fun a b=>if a=i∧b < c then subO (g i b) (mulO f (g u b)) else g a b) (h:=fun a b=>if a=i then subO (g i b) (mulO f (g u b)) else g a b) (fun a b _ hb=>by simp[hb])]
noncomputable def rowB (c:Nat) (g:Nat→Nat→Option Rat) (i:Nat):Bool:=((List.range c).map (g i)).all Option.isSome
theorem rowB_iff {i:Nat}:rowB c g i=true↔∀ j,j < c→(g i j).isSome=true:=by
  unfold rowB
  rw[List.all_eq_true]
  constructor
  · intro h j hj; exact h _ (List.mem_map.2 ⟨j,List.mem_range.2 hj,rfl⟩)
  · intro h o ho; obtain ⟨j,hj,rfl⟩:=List.mem_map.1 ho; exact h j (List.mem_range.1 hj)
theorem rows_allG:(List.range r).all (rowB c g)=allG r c g:=by
  rw[Bool.eq_iff_iff,List.all_eq_true,allG_iff]
  constructor
  · intro h i j hi hj; exact rowB_iff.1 (h i (List.mem_range.2 hi)) j hj
  · intro h i hi; exact rowB_iff.2 fun j hj=>h i j (List.mem_range.1 hi) hj
theorem iel_clear (hr:r≤24) (hc:c≤200) (hg:∀ i k,i < r→k < c→Oks (g i k)) (hall:∀ i k,i < r→k < c→(g i k).isSome=true) (hu:u < r) (hk:k < c) (v v1 v5 v6:Int) (v2 v4 fs:List Rt) (v3 pv:List Int) :
    L_impl_reduce_4 u k (u * c) c r 0 v v1 v2 v3 v4 v5 v6 r c ((grid r c g).map ro) fs pv =
      some (cond (allG r c (clr g u k)) (.inr ((u:Int),(k:Int),v,v1,v2,v3,v4,v5,v6,(r:Int),(c:Int),(grid r c (clr g u k)).map ro,fs,pv,())) (.inl (false,0,0,[],[],[],()))):=by
  unfold L_impl_reduce_4
  rw[← rows_allG]
  have hgi:∀ i,clr g u k i=(fun b=>clr g u k i b):=fun _=>rfl
  have key := stop_loop (S:=S_impl_reduce_4) (fun i=>((u:Int),(k:Int),u * c,c,(r:Int),(i:Int),v,v1,v2,v3,v4,v5,v6,(r:Int),(c:Int),(grid r c (fun a b=>if a < i then clr g u k a b else g a b)).map ro,fs,pv,())) r (rowB c (clr g u k))
    (.inl (false,0,0,[],[],[],())) (.inr ((u:Int),(k:Int),v,v1,v2,v3,v4,v5,v6,(r:Int),(c:Int),(grid r c (clr g u k)).map ro,fs,pv,())) (fun i hi _=>by
      have same:(∀ b,clr g u k i b=g i b)→grid r c (fun a b=>if a < i+1 then clr g u k a b else g a b)=grid r c (fun a b=>if a < i then clr g u k a b else g a b):=fun h=>grid_congr fun a b _ _=>by
        by_cases h1:a < i
        · rw[if_pos h1,if_pos (by omega)]
        · rw[if_neg h1]
          by_cases h2:a=i
          · subst h2; rw[if_pos (by omega),h]
          · rw[if_neg (by omega)]
      have whole:(∀ b,clr g u k i b=g i b)→rowB c (clr g u k) i=true:=fun h=>rowB_iff.2 fun j hj=>by rw[h]; exact hall i j hi hj
      have hrow:=row_md (xs:=(grid r c (fun a b=>if a < i then clr g u k a b else g a b)).map ro) hr hc (by rw[List.length_map,len_grid]) hi r
      simp only[S_impl_reduce_4,dlt hi,cond_true,hrow,Option.bind_some]
      by_cases hiu:i=u
      · subst hiu
        have e:∀ b,clr g i k i b=g i b:=fun b=>by unfold clr; rw[if_pos rfl]
        rw[same e,whole e]
        simp only[beq_self_eq_true,cond_true,succ_wrap hi (show r≤1048576 by omega)]
      · have hb : ((i:Int)==(u:Int))=false:=by
          rw[beq_eq_false_iff_ne]; omega
        have hui:(if u < i then clr g u k u k else g u k)=g u k:=by
          split
          · unfold clr; rw[if_pos rfl]
          · rfl
        have gk:idx (cut ((grid r c (fun a b=>if a < i then clr g u k a b else g a b)).map ro) (i * c) (i * c+c)) (k:Int)=some (ro (g i k)):=by
          rw[idx_rowG hi hk,if_neg (Nat.lt_irrefl i)]
        have gg:((grid r c (fun a b=>if a < i then clr g u k a b else g a b)).map ro)[i * c+k]? = some (ro (g i k)):=by
          rw[get_grid hi hk,if_neg (Nat.lt_irrefl i)]
        simp only[hb,cond_false,gk,Int.toNat_natCast,gg,Option.bind_some,zero_ro]
        have hnn:g i k≠none:=fun e=>by have:=hall i k hi hk; rw[e] at this; cases this
        by_cases h0:g i k=some 0
        · have e:∀ b,clr g u k i b=g i b:=fun b=>by unfold clr; rw[if_neg hiu,if_pos h0]
          rw[decide_eq_true (.inl h0),cond_true,same e,whole e]
          simp only[cond_true,succ_wrap hi (show r≤1048576 by omega)]
        · rw [decide_eq_false (by rintro (h | h); exact h0 h; exact hnn h),cond_false]
          have h1:=iel_clear1 (u:=u) (g:=fun a b=>if a < i then clr g u k a b else g a b) hc (fun a b h1 h2=>by
            show Oks (if a < i then clr g u k a b else g a b)
            split
            · exact oks_clr hg h1 h2
            · exact hg a b h1 h2) hi hu hiu (hg i k hi hk) u k r i v v1 v5 v6 v2 v4 fs v3 pv
          have hgrid:grid r c (fun a b=>if a=i then subO (if i < i then clr g u k i b else g i b) (mulO (g i k) (if u < i then clr g u k u b else g u b)) else if a < i then clr g u k a b else g a b)=grid r c (fun a b=>if a < i+1 then clr g u k a b else g a b):=grid_congr fun a b _ _=>by
            by_cases h2:a=i
            · subst h2
              have hsu:(if u < a then clr g u k u b else g u b)=g u b:=by
                split
                · unfold clr; rw[if_pos rfl]
                · rfl
              rw[if_pos rfl,if_pos (show a < a+1 by omega),if_neg (Nat.lt_irrefl a),hsu]
              unfold clr; rw[if_neg hiu,if_neg h0]
            · rw[if_neg h2]
              have:(a < i+1)=(a < i):=by rw[eq_iff_iff]; omega
              simp only[this]
          rw[hgrid] at h1
          rw[h1]
          simp only[Option.bind_some]
          rw[row_all hi hc]
          have hrb:(((List.range c).map fun b=>if i < i+1 then clr g u k i b else g i b).all Option.isSome)=rowB c (clr g u k) i:=by
            unfold rowB; congr 2; funext b; rw[if_pos (by omega)]
          rw[hrb,Option.bind_some]
          cases rowB c (clr g u k) i with
          | false=>rfl
          | true=>simp only[Bool.not_true,cond_false,cond_true,succ_wrap hi (show r≤1048576 by omega)]) (fun _=>by
      have e:grid r c (fun a b=>if a < r then clr g u k a b else g a b)=grid r c (clr g u k):=grid_congr fun a b h _=>if_pos h
      simp[S_impl_reduce_4,e])
  refine Eq.trans ?_ key
  rw[grid_congr (r:=r) (c:=c) (g:=fun a b=>if a < 0 then clr g u k a b else g a b) (h:=g) (fun a b _ _=>if_neg (by omega))]; rfl
end
end Go.Di
namespace Go.Di
theorem sz_go {x:Option Int} {left:Int} {n:Nat} {k:Int→Option Bool} (h:SzR x left n) (hk:∀ r:Int,0≤r→r+n=left→k r=some true) :
    (x.bind fun r=>cond (decide (r < 0)) (some true) (k r))=some true:=by
  rcases h with rfl | ⟨r,h0,h1,rfl⟩
  · rfl
  · have:decide (r < 0)=false:=by simpa using h0
    simp only[Option.bind_some,this,cond_false,hk r h0 h1]
end Go.Di
namespace Go.Di
end Go.Di
namespace Go.Di
section
variable {r c:Nat} {g:Nat→Nat→Option Rat} {k:Nat}
noncomputable def ist (r c k:Nat) (s:ES):Int × Int × Int × Int × (List Rt) × (List Int) × (List Rt) × Int × Int × Int × Int × (List Rt) × (List Int) × (List Rt) × Unit :=
  ((s.pv.length:Int),(k:Int),0,0,[],[],[],(r:Int),(c:Int),(r:Int),(c:Int),(grid r c s.g).map ro,s.pv,s.fs.map ro,())
theorem impl_step {s:ES} (hr:r≤24) (hc:c≤200) (h:EInv r c k s) (hk:k < c) (hur:s.pv.length < r) :
    (∃ s',stepE r c k s=some s'∧S_impl_reduce_0 (ist r c k s)=some (.inl (ist r c (k+1) s'))) ∨
    (stepE r c k s=none∧S_impl_reduce_0 (ist r c k s)=some (.inr (.inl (false,0,0,[],[],[],())))):=by
  unfold stepE
  rw[if_pos hur]
  obtain ⟨pl,ph⟩:=pivR_le s.g k (r - s.pv.length) s.pv.length
  have hfind:=iel_find (u:=s.pv.length) hr hc h.good hk (Nat.le_of_lt hur) s.pv.length 0 0 r c [] [] (s.fs.map ro) [] s.pv
  have hne:pivR s.g k (r - s.pv.length) s.pv.length < s.pv.length+(r - s.pv.length)→s.g (pivR s.g k (r - s.pv.length) s.pv.length) k≠some 0:=pivR_ne s.g k _ _
  generalize pivR s.g k (r - s.pv.length) s.pv.length=p at *
  simp only
  have hdec:decide ((s.pv.length:Int) < (r:Int))=true:=decide_eq_true (by omega)
  have fl1:guardO (Nat.ble ((s.fs.map ro).length+1) maxNew)=some ():=room1 (by rw[List.length_map]; have:=h.fslen; omega)
  have fl2:guardO (Nat.ble ((s.fs.map ro++[ro (some (-1))]).length+1) maxNew)=some ():=room1 (by rw[List.length_append,List.length_map]; have:=h.fslen; simp; omega)
  have pl1:guardO (Nat.ble (s.pv.length+1) maxNew)=some ():=room1 (by omega)
  by_cases hpr:p=r
  · subst hpr
    left
    rw[if_pos rfl]
    refine ⟨s,rfl,?_⟩
    unfold ist
    simp only[S_impl_reduce_0,dlt hk,cond_true,hdec,hfind,Option.bind_some,beq_self_eq_true,succ_wrap hk (show c≤1048576 by omega)]
  · rw [if_neg hpr]
    have hp:p < r:=by omega
    have hne:=hne (by omega)
    have g1:=swp_good (u:=s.pv.length) h.good hp hur
    have z1:=swp_zero (c:=c) hur hp pl h.zero
    have e1:swp s.g p s.pv.length s.pv.length k=s.g p k:=by
      unfold swp
      split
      · rename_i e; rw[e]
      · rw[if_pos rfl]
    have hself:p=s.pv.length→swp s.g p s.pv.length=s.g:=fun e=>by
      subst e; funext a b; unfold swp; split
      · rename_i h; rw[h]
      · rfl
    have hsw:=iel_swap (g:=s.g) (r:=r) (c:=c) hc hp hur s.pv.length k 0 0 r c [] [] (s.fs.map ro++[ro (some (-1))]) [] s.pv
    have hrow1:=row_md (xs:=(grid r c s.g).map ro) hr hc (by rw[List.length_map,len_grid]) hp r
    have hrow2:=row_md (xs:=(grid r c s.g).map ro) hr hc (by rw[List.length_map,len_grid]) hur r
    generalize swp s.g p s.pv.length=gg at *
    obtain ⟨y,hy⟩:=Option.isSome_iff_exists.1 (g1 s.pv.length k hur hk).2
    have hy0:y≠0:=fun e0=>hne (by rw[← e1,hy,e0])
    have hbeq:((p:Int)==(r:Int))=false:=by rw[beq_eq_false_iff_ne]; omega
    have hrow3:=row_md (xs:=(grid r c gg).map ro) hr hc (by rw[List.length_map,len_grid]) hur r
    have hat1:=idx_rowG (r:=r) (c:=c) (g:=gg) hur hk
    have hat2:=get_grid (r:=r) (c:=c) (g:=gg) hur hk
    have hdivl:=fun fs=>iel_div (r:=r) (c:=c) (g:=gg) hc g1 hk hur s.pv.length k 0 0 r c [] [] fs [] s.pv
    have o2:∀ i j,i < r→j < c→Oks (dvd gg s.pv.length k i j):=fun i j hi hj=>oks_dvd g1 hi hj
    have hrowc:=row_all (r:=r) (c:=c) (g:=dvd gg s.pv.length k) hur hc
    have htop:(((List.range c).map (dvd gg s.pv.length k s.pv.length)).all Option.isSome)=allG r c (dvd gg s.pv.length k):=by
      rw[Bool.eq_iff_iff,allG_iff]
      have hb:=rowB_iff (c:=c) (g:=dvd gg s.pv.length k) (i:=s.pv.length)
      refine hb.trans ⟨fun ha i j hi hj=>?_,fun ha j hj=>ha _ j hur hj⟩
      by_cases hiu:i=s.pv.length
      · rw[hiu]; exact ha j hj
      · unfold dvd; rw[if_neg hiu]; exact (g1 i j hi hj).2
    rw[htop] at hrowc
    have hS:S_impl_reduce_0 (ist r c k s)=cond (!allG r c (dvd gg s.pv.length k)) (some (.inr (.inl (false,0,0,[],[],[],()))))
        ((L_impl_reduce_4 s.pv.length k (s.pv.length * c) c r 0 0 0 [] [] [] r c r c ((grid r c (dvd gg s.pv.length k)).map ro) (((s.fs++if p≠s.pv.length then [some (-1)] else [])++[gg s.pv.length k]).map ro) s.pv).bind fun r1 =>
        match r1 with
        | .inl (t,v27,v28,v29,v30,v31,_)=>some (.inr (.inl (t,v27,v28,v29,v30,v31,())))
        | .inr (used3,c3,v32,v33,v34,v35,v36,v37,v38,v39,v40,xs9,xs10,xs11,_) =>
          (guardO (Nat.ble (xs11.length+1) maxNew)).bind fun _ =>
          some (.inl (IntKind.i64.wrap (used3+1),IntKind.i64.wrap (c3+1),v32,v33,v34,v35,v36,v37,v38,v39,v40,xs9,xs11++([c3]:List Int),xs10,()))):=by
      by_cases hpu:p=s.pv.length
      · have hbne:((p:Int) != (s.pv.length:Int))=false:=by rw[hpu]; simp
        rw[if_neg (fun h=>h hpu),List.append_nil,List.map_append,List.map_singleton]
        have hg:=hself hpu
        unfold ist
        simp only[S_impl_reduce_0,dlt hk,cond_true,hdec,hfind,Option.bind_some,hbeq,cond_false,hbne]
        rw[← hg]
        simp only[hrow3,hat1,hat2,Int.toNat_natCast,Option.bind_some,fl1,hdivl,hrowc]
        rfl
      · have hbne:((p:Int) != (s.pv.length:Int))=true:=by
          rw[bne_iff_ne]; omega
        have hm1:M_impl_whole (-1)=some (ro (some (-1))):=by
          have:=impl_whole (n := -1) (by omega) (by omega)
          rw[this]; simp
        rw[if_pos hpu,List.map_append,List.map_append,List.map_singleton,List.map_singleton]
        unfold ist
        simp only[S_impl_reduce_0,dlt hk,cond_true,hdec,hfind,Option.bind_some,hbeq,cond_false,hbne,hm1,fl1,hrow1,hrow2,hsw,hrow3,hat1,hat2,Int.toNat_natCast,fl2,hdivl,hrowc]
        rfl
    cases h2:allG r c (dvd gg s.pv.length k) with
    | false =>
      right
      rw[h2] at hS
      exact ⟨by rw[Bool.false_and]; rfl,hS⟩
    | true =>
      have a2:=allG_iff.1 h2
      rw[h2] at hS
      have hcl:=iel_clear (g:=dvd gg s.pv.length k) hr hc o2 a2 hur hk 0 0 r c [] [] (((s.fs++if p≠s.pv.length then [some (-1)] else [])++[gg s.pv.length k]).map ro) [] s.pv
      rw[hcl] at hS
      rw[Bool.true_and]
      cases h3:allG r c (clr (dvd gg s.pv.length k) s.pv.length k) with
      | false =>
        right
        rw[h3] at hS
        exact ⟨rfl,hS⟩
      | true =>
        left
        rw[h3] at hS
        refine ⟨_,rfl,hS.trans ?_⟩
        unfold ist
        simp only[Bool.not_true,cond_false,cond_true,Option.bind_some,pl1,succ_wrap hur (show r≤1048576 by omega),succ_wrap hk (show c≤1048576 by omega),List.length_append,List.length_singleton]
theorem impl_elim (hr:r≤24) (hc:c≤200) (hg:Good2 r c g):∀ n k s,k+n=c→elim r c g k=some s →
    (∃ f,elim r c g c=some f∧whileO S_impl_reduce_0 (ist r c k s)=some (.inr (0,0,[],[],[],(r:Int),(c:Int),(grid r c f.g).map ro,f.pv,f.fs.map ro,()))) ∨
    (elim r c g c=none∧whileO S_impl_reduce_0 (ist r c k s)=some (.inl (false,0,0,[],[],[],()))):=by
  intro n
  induction n with
  | zero =>
    intro k s hk e
    have:k=c:=by omega
    subst this
    left
    refine ⟨s,e,whileO_inr ?_⟩
    unfold ist
    simp[S_impl_reduce_0]
  | succ n ih =>
    intro k s hk e
    have hkc:k < c:=by omega
    have hi:=elim_inv hg (Nat.le_of_lt hkc) e
    by_cases hu:s.pv.length < r
    · rcases impl_step hr hc hi hkc hu with ⟨s',e1,e2⟩ | ⟨e1,e2⟩
      · rw[whileO_inl e2]
        exact ih (k+1) s' (by omega) (by unfold elim; rw[e]; exact e1)
      · right
        refine ⟨?_,whileO_inr e2⟩
        have:elim r c g (k+1)=none:=by unfold elim; rw[e]; exact e1
        have:=elim_none this n
        rw[show k+1+n=c by omega] at this
        exact this
    · left
      have:=elim_stay e hu (n+1)
      rw[hk] at this
      refine ⟨s,this,whileO_inr ?_⟩
      unfold ist
      simp only[S_impl_reduce_0,dlt hkc,cond_true,decide_eq_false (show ¬ (s.pv.length:Int) < (r:Int) by omega),cond_false]
theorem impl_reduce (hr:r≤24) (hc:c≤200) (hg:Good2 r c g) :
    (∃ f,elim r c g c=some f∧M_impl_reduce ⟨r,c,(grid r c g).map ro⟩=some (⟨r,c,(grid r c f.g).map ro,f.pv,f.fs.map ro⟩,true)) ∨
    (elim r c g c=none∧M_impl_reduce ⟨r,c,(grid r c g).map ro⟩=some (⟨0,0,[],[],[]⟩,false)):=by
  have hcp:M_impl_copyVector ((grid r c g).map ro)=some ((grid r c g).map ro):=impl_copyVec (by
    have:r * c≤24 * 200:=Nat.mul_le_mul hr hc
    refine ⟨by rw[List.length_map,len_grid]; omega,fun x hx=>?_⟩
    obtain ⟨o,ho,rfl⟩:=List.mem_map.1 hx
    obtain ⟨i,j,hi,hj,rfl⟩:=grid_mem ho
    exact ro_fit (hg i j hi hj).1)
  rcases impl_elim hr hc hg c 0 ⟨g,[],[]⟩ (by omega) rfl with ⟨f,e1,e2⟩ | ⟨e1,e2⟩
  · left
    refine ⟨f,e1,?_⟩
    unfold M_impl_reduce L_impl_reduce_0
    rw[hcp,Option.bind_some]
    exact congrArg (fun x=>Option.bind x _) e2
  · right
    refine ⟨e1,?_⟩
    unfold M_impl_reduce L_impl_reduce_0
    rw[hcp,Option.bind_some]
    exact congrArg (fun x=>Option.bind x _) e2
end
noncomputable def gof (q:List Rat) (c:Nat):Nat→Nat→Option Rat:=fun i k=>q[i * c+k]?
theorem gof_grid {q:List Rat} {r c:Nat} (hl:q.length=r * c):(grid r c (gof q c)).map ro=q.map rq:=by
  rw[rq_some]
  congr 1
  apply List.ext_getElem?
  intro j
  by_cases hj:j < r * c
  · obtain ⟨h1,h2,h3⟩:=div_parts hj
    rw[grid_at _ hj]
    unfold gof
    rw[h3,List.getElem?_map]
    have:j < q.length:=by omega
    simp[this]
  · rw[List.getElem?_eq_none (by rw[len_grid]; omega),List.getElem?_eq_none (by rw[List.length_map]; omega)]
theorem gof_good {q:List Rat} {r c:Nat} (hl:q.length=r * c) (hf:Fits q):Good2 r c (gof q c):=fun i k hi hk=>by
  have h:i * c+k < q.length:=by rw[hl]; exact at_lt hi hk
  unfold gof
  exact ⟨hf.get _,by simp[h]⟩
end Go.Di
namespace Go.Di
end Go.Di
namespace Go.Di
theorem spec_copyMx {m:Mx} (h:lfit Rt.fit m.cells):M_spec_l06Copy m=some m:=by
  unfold M_spec_l06Copy
  rw[spec_copyVec h]; rfl
theorem fine_grid {r c:Nat} {g:Nat→Nat→Option Rat} (hr:r≤24) (hc:c≤200) (h:Good2 r c g):M_spec_l05Fine ((grid r c g).map ro)=some true:=by
  have hp:r * c≤24 * 200:=Nat.mul_le_mul hr hc
  rw[spec_fine (by rw[len_grid]; omega)]
  congr 1
  exact allG_iff.2 fun i k hi hk=>(h i k hi hk).2
theorem reduce_cases {m:Mx} {r c:Nat} {q:List Rat} (hq:MxQ m r c q) :
    (∃ f,elim r c (gof q c) c=some f∧EInv r c c f∧M_spec_l07Reduce_m m=some (f.pv,f.fs.map ro,(grid r c f.g).map ro)∧M_spec_l05Fine ((grid r c f.g).map ro)=some true ∧
      M_impl_reduce m=some (⟨r,c,(grid r c f.g).map ro,f.pv,f.fs.map ro⟩,true)) ∨
    (elim r c (gof q c) c=none∧(∃ pv fs cs,M_spec_l07Reduce_m m=some (pv,fs,cs)∧M_spec_l05Fine cs=some false)∧M_impl_reduce m=some (⟨0,0,[],[],[]⟩,false)):=by
  obtain ⟨hr,hc,hl,hf,rfl⟩:=hq
  have hg:=gof_good hl hf
  have hc':c≤200:=by omega
  rw[← gof_grid hl]
  rcases spec_reduce hr hc' hg with ⟨f,e1,e2⟩ | ⟨e1,lo,pv,fs,l1,l2,e2⟩
  · left
    rcases impl_reduce hr hc' hg with ⟨f',e3,e4⟩ | ⟨e3,_⟩
    · rw[e1] at e3; injection e3 with e3; subst e3
      have inv:=elim_inv hg (Nat.le_refl c) e1
      exact ⟨f,e1,inv,e2,fine_grid hr hc' inv.good,e4⟩
    · rw[e1] at e3; cases e3
  · right
    rcases impl_reduce hr hc' hg with ⟨f',e3,e4⟩ | ⟨_,e4⟩
    · rw[e1] at e3; cases e3
    · have hp:=prod24 hr hc
      exact ⟨e1,⟨pv,fs,_,e2,by rw[spec_fine (by rw[l1]; omega),l2]⟩,e4⟩
theorem reduce_both {m:Mx} (hm:lfit Rt.fit m.cells):∃ R pv b,M_spec_Reduce m=some (R,pv,b)∧M_impl_Reduce m=some (R,pv,b)∧Rfit R.cells:=by
  cases hb:mxB m with
  | false=>exact ⟨⟨0,0,[]⟩,[],false,by unfold M_spec_Reduce; rw[spec_mxOk hm,hb]; rfl,by unfold M_impl_Reduce; rw[impl_mxOk hm,hb]; rfl,rfit_nil⟩
  | true =>
    obtain ⟨r,c,q,hq⟩:=mx_cases hb
    have hmq:=hq.eq
    rcases reduce_cases hq with ⟨f,_,inv,e2,e3,e4⟩ | ⟨_,⟨pv,fs,cs,e2,e3⟩,e4⟩
    · refine ⟨⟨r,c,(grid r c f.g).map ro⟩,f.pv,true,?_,?_,rfit_grid hq.r24 hq.c24 fun i k hi hk=>(inv.good i k hi hk).1⟩
      · unfold M_spec_Reduce
        rw[spec_mxOk hm,hb,Option.bind_some,Bool.not_true,cond_false,spec_copyMx hm,Option.bind_some,e2,Option.bind_some]
        simp only[e3,Option.bind_some,Bool.not_true,cond_false]
        rw[hmq]
      · unfold M_impl_Reduce
        rw[impl_mxOk hm,hb,Option.bind_some,Bool.not_true,cond_false,e4]; rfl
    · refine ⟨⟨0,0,[]⟩,[],false,?_,?_,rfit_nil⟩
      · unfold M_spec_Reduce
        rw[spec_mxOk hm,hb,Option.bind_some,Bool.not_true,cond_false,spec_copyMx hm,Option.bind_some,e2,Option.bind_some]
        simp only[e3,Option.bind_some,Bool.not_false,cond_true]
      · unfold M_impl_Reduce
        rw[impl_mxOk hm,hb,Option.bind_some,Bool.not_true,cond_false,e4]; rfl
/-! ### Determinants -/
end Go.Di
namespace Go.Di
/-! ### Loops that run alike,loops that keep something -/
theorem iterO_map {σ τ ρ θ:Type} {S:σ→Option (σ ⊕ ρ)} {T:τ→Option (τ ⊕ θ)} (E:τ→σ) (F:θ→ρ) (h:∀ t,S (E t)=(T t).map (Sum.map E F)):∀ (n:Nat) (t:τ),iterO S n (E t)=(iterO T n t).map F
  | 0,_=>rfl
  | n + 1,t=>by
    unfold iterO
    rw[h t]
    cases ht:T t with
    | none=>rfl
    | some r =>
      cases r with
      | inl t'=>exact iterO_map E F h n t'
      | inr y=>rfl
theorem whileO_map {σ τ ρ θ:Type} {S:σ→Option (σ ⊕ ρ)} {T:τ→Option (τ ⊕ θ)} (E:τ→σ) (F:θ→ρ) (h:∀ t,S (E t)=(T t).map (Sum.map E F)) (t:τ):whileO S (E t)=(whileO T t).map F:=by
  cases ht:whileO T t with
  | some y =>
    obtain ⟨n,hn⟩:=whileO_iff.1 ht
    exact whileO_iff.2 ⟨n,by rw[iterO_map E F h,hn]; rfl⟩
  | none =>
    cases hs:whileO S (E t) with
    | none=>rfl
    | some r =>
      obtain ⟨n,hn⟩:=whileO_iff.1 hs
      rw[iterO_map E F h] at hn
      cases hy:iterO T n t with
      | none=>rw[hy] at hn; cases hn
      | some y=>rw[whileO_iff.2 ⟨n,hy⟩] at ht; cases ht
theorem whileO_keep {τ θ:Type} {T:τ→Option (τ ⊕ θ)} (I:τ→Prop) (Q:θ→Prop) (h1:∀ t t',I t→T t=some (.inl t')→I t') (h2:∀ t y,I t→T t=some (.inr y)→Q y) {t:τ} {y:θ} (hi:I t) (h:whileO T t=some y):Q y:=by
  obtain ⟨n,hn⟩:=whileO_iff.1 h
  clear h
  induction n generalizing t with
  | zero=>cases hn
  | succ n ih =>
    unfold iterO at hn
    cases ht:T t with
    | none=>rw[ht] at hn; cases hn
    | some r =>
      rw[ht] at hn
      cases r with
      | inl t'=>exact ih (h1 t t' hi ht) hn
      | inr z=>cases hn; exact h2 t y hi ht
/-! ### Taking the numbers away -/
abbrev ers (l:List TRt):List Rt:=l.map TRt.er
theorem er_neg (e:TRt):(TRt.er e).neg=e.neg:=rfl
theorem er_mag (e:TRt):(TRt.er e).mag=e.mag.xs:=rfl
theorem er_den (e:TRt):(TRt.er e).den=e.den.xs:=rfl
theorem er_mk (r:Rt) (a b:Nat):TRt.er ⟨r.neg,⟨a,r.mag⟩,⟨b,r.den⟩⟩=r:=rfl
theorem map_bindE {α β γ:Type} (o:Option α) (f:α→β) (g:β→Option γ):(o.map f).bind g=o.bind fun a=>g (f a):=by cases o<;>rfl
theorem bind_mapE {α β γ:Type} (o:Option α) (g:α→Option β) (f:β→γ):(o.bind g).map f=o.bind fun a=>(g a).map f:=by cases o<;>rfl
theorem cond_mapE {α β:Type} (b:Bool) (x y:Option α) (f:α→β):(cond b x y).map f=cond b (x.map f) (y.map f):=by cases b<;>rfl
theorem idx_mapE {α β:Type} (f:α→β) (l:List α) (i:Int):idx (l.map f) i=(idx l i).map f:=by
  unfold idx; split
  · rw[List.getElem?_map]
  · rfl
theorem cut_mapE {α β:Type} (f:α→β) (l:List α) (a b:Nat):cut (l.map f) a b=(cut l a b).map f:=by simp[cut,List.map_take,List.map_drop]
theorem tokz_er:∀ (n:Nat) (l:List Rt),(tokz n l).map TRt.er=l
  | _,[]=>rfl
  | n,r :: l=>by simp only[tokz,List.map_cons,tokz_er (n+2) l]; rfl
theorem map_setE {α β:Type} (f:α→β) (l:List α) (i:Nat) (a:α):(l.set i a).map f=(l.map f).set i (f a):=List.map_set
theorem row_er (r c i:Int) (l:List TRt):M_impl_Matrix_row_md ⟨r,c,ers l⟩ i=(M_impl_Matrix_row_Td ⟨r,c,l⟩ i).map fun p=>(p.1,ers p.2):=by
  simp only[M_impl_Matrix_row_md,M_impl_Matrix_row_Td,List.length_map,bind_mapE,Option.map_some]
theorem at_er (r c i k:Int) (l:List TRt):M_impl_Matrix_at_mdd ⟨r,c,ers l⟩ i k=(M_impl_Matrix_at_tdd ⟨r,c,l⟩ i k).map fun e=>(TRt.er e,ers l):=by
  simp only[M_impl_Matrix_at_mdd,M_impl_Matrix_at_tdd,idx_mapE,map_bindE,bind_mapE,Option.map_some]
  generalize IntKind.i64.wrap (IntKind.i64.wrap (i * c)+k)=j
  unfold idx
  split
  · rw[List.getElem?_map]
    cases l[j.toNat]? <;> rfl
  · rfl
/-! ### The loops of the reduction -/
abbrev F5:Int × Int × Nat × Nat × Nat × Nat × Int × Int × Int × Int × Int × Int × Int × Int × (List TRt) × (List TRt) × (List Int) × (List TRt) × (List Int) × (List TRt) × Nat × Unit→Int × Int × Nat × Nat × Nat × Nat × Int × Int × Int × Int × (List Rt) × (List Int) × (List Rt) × Int × Int × Int × Int × (List Rt) × (List Rt) × (List Int) × Unit :=
  fun (used,c,lo,len,lo1,len1,t,t1,v,v1,v2,v3,v4,v5,xs,xs1,xs2,xs3,xs4,xs5,_,_)=>(used,c,lo,len,lo1,len1,t,t1,v,v1,ers xs3,xs4,ers xs5,v2,v3,v4,v5,ers xs,ers xs1,xs2,())
theorem red5_er (used c:Int) (lo len lo1 len1:Nat) (t t1 t2 t3 v v1 v2 v3 v4 v5:Int) (v6:Bool) (v7 v8:Tk) (xs xs1:List TRt) (xs2:List Int) (xs3:List TRt) (xs4:List Int) (xs5:List TRt) (np:Nat) :
    L_impl_reduce_5 used c lo len lo1 len1 t t1 t2 t3 v v1 (ers xs3) xs4 (ers xs5) v2 v3 v4 v5 v6 v7.xs v8.xs (ers xs) (ers xs1) xs2=(L_impl_reduce_t_5 used c lo len lo1 len1 t t1 t2 t3 v v1 v2 v3 v4 v5 v6 v7 v8 xs xs1 xs2 xs3 xs4 xs5 np).map F5 :=
  whileO_map (S:=S_impl_reduce_5) (T:=S_impl_reduce_t_5) (fun (used,c,lo,len,lo1,len1,t,t1,t2,t3,v,v1,v2,v3,v4,v5,v6,v7,v8,xs,xs1,xs2,xs3,xs4,xs5,_,_)=>(used,c,lo,len,lo1,len1,t,t1,t2,t3,v,v1,ers xs3,xs4,ers xs5,v2,v3,v4,v5,v6,v7.xs,v8.xs,ers xs,ers xs1,xs2,())) F5
    (fun (used,c,lo,len,lo1,len1,t,t1,t2,t3,v,v1,v2,v3,v4,v5,v6,v7,v8,xs,xs1,xs2,xs3,xs4,xs5,np,_)=>by
      simp only[S_impl_reduce_5,S_impl_reduce_t_5,cond_mapE,bind_mapE,map_bindE,idx_mapE,cut_mapE,List.getElem?_map,Option.map_some,Sum.map_inl,Sum.map_inr,map_setE,er_mk]) (used,c,lo,len,lo1,len1,t,t1,t2,t3,v,v1,v2,v3,v4,v5,v6,v7,v8,xs,xs1,xs2,xs3,xs4,xs5,np,())
abbrev F3:Int × Int × Nat × Nat × Int × Int × Int × Int × Int × Int × (List TRt) × (List TRt) × (List Int) × (List TRt) × (List Int) × (List TRt) × Nat × Unit→Int × Int × Nat × Nat × Int × Int × (List Rt) × (List Int) × (List Rt) × Int × Int × Int × Int × (List Rt) × (List Rt) × (List Int) × Unit :=
  fun (used,c,lo,len,v,v1,v2,v3,v4,v5,xs,xs1,xs2,xs3,xs4,xs5,_,_)=>(used,c,lo,len,v,v1,ers xs3,xs4,ers xs5,v2,v3,v4,v5,ers xs,ers xs1,xs2,())
theorem red3_er (used c:Int) (lo len:Nat) (t t1 v v1 v2 v3 v4 v5:Int) (v6:Bool) (v7 v8:Tk) (xs xs1:List TRt) (xs2:List Int) (xs3:List TRt) (xs4:List Int) (xs5:List TRt) (np:Nat) :
    L_impl_reduce_3 used c lo len t t1 v v1 (ers xs3) xs4 (ers xs5) v2 v3 v4 v5 v6 v7.xs v8.xs (ers xs) (ers xs1) xs2=(L_impl_reduce_t_3 used c lo len t t1 v v1 v2 v3 v4 v5 v6 v7 v8 xs xs1 xs2 xs3 xs4 xs5 np).map F3 :=
  whileO_map (S:=S_impl_reduce_3) (T:=S_impl_reduce_t_3) (fun (used,c,lo,len,t,t1,v,v1,v2,v3,v4,v5,v6,v7,v8,xs,xs1,xs2,xs3,xs4,xs5,_,_)=>(used,c,lo,len,t,t1,v,v1,ers xs3,xs4,ers xs5,v2,v3,v4,v5,v6,v7.xs,v8.xs,ers xs,ers xs1,xs2,())) F3
    (fun (used,c,lo,len,t,t1,v,v1,v2,v3,v4,v5,v6,v7,v8,xs,xs1,xs2,xs3,xs4,xs5,np,_)=>by
      simp only[S_impl_reduce_3,S_impl_reduce_t_3,cond_mapE,bind_mapE,map_bindE,idx_mapE,cut_mapE,List.getElem?_map,Option.map_some,Sum.map_inl,Sum.map_inr,map_setE,er_mk]) (used,c,lo,len,t,t1,v,v1,v2,v3,v4,v5,v6,v7,v8,xs,xs1,xs2,xs3,xs4,xs5,np,())
abbrev F2:Int × Int × Int × Int × Int × Int × Int × Int × (List TRt) × (List TRt) × (List Int) × (List TRt) × (List Int) × (List TRt) × Nat × Unit→Int × Int × Int × Int × (List Rt) × (List Int) × (List Rt) × Int × Int × Int × Int × (List Rt) × (List Rt) × (List Int) × Unit :=
  fun (used,c,v,v1,v2,v3,v4,v5,xs,xs1,xs2,xs3,xs4,xs5,_,_)=>(used,c,v,v1,ers xs3,xs4,ers xs5,v2,v3,v4,v5,ers xs,ers xs1,xs2,())
theorem red2_er (used c:Int) (lo len lo1 len1:Nat) (t t1 v v1 v2 v3 v4 v5:Int) (xs xs1:List TRt) (xs2:List Int) (xs3:List TRt) (xs4:List Int) (xs5:List TRt) (np:Nat) :
    L_impl_reduce_2 used c lo len lo1 len1 t t1 v v1 (ers xs3) xs4 (ers xs5) v2 v3 v4 v5 (ers xs) (ers xs1) xs2=(L_impl_reduce_t_2 used c lo len lo1 len1 t t1 v v1 v2 v3 v4 v5 xs xs1 xs2 xs3 xs4 xs5 np).map F2 :=
  whileO_map (S:=S_impl_reduce_2) (T:=S_impl_reduce_t_2) (fun (used,c,lo,len,lo1,len1,t,t1,v,v1,v2,v3,v4,v5,xs,xs1,xs2,xs3,xs4,xs5,_,_)=>(used,c,lo,len,lo1,len1,t,t1,v,v1,ers xs3,xs4,ers xs5,v2,v3,v4,v5,ers xs,ers xs1,xs2,())) F2
    (fun (used,c,lo,len,lo1,len1,t,t1,v,v1,v2,v3,v4,v5,xs,xs1,xs2,xs3,xs4,xs5,np,_)=>by
      simp only[S_impl_reduce_2,S_impl_reduce_t_2,cond_mapE,bind_mapE,map_bindE,← map_setE,idx_mapE,cut_mapE,List.getElem?_map,Option.map_some,Sum.map_inl,Sum.map_inr]) (used,c,lo,len,lo1,len1,t,t1,v,v1,v2,v3,v4,v5,xs,xs1,xs2,xs3,xs4,xs5,np,())
abbrev F1:Int × Int × Int × Int × Int × Int × Int × Int × Int × (List TRt) × (List Int) × (List TRt) × (List TRt) × (List Int) × (List TRt) × Nat × Unit→Int × Int × Int × Int × Int × (List Rt) × (List Int) × (List Rt) × Int × Int × Int × Int × (List Rt) × (List Int) × (List Rt) × Unit :=
  fun (used,c,p,v,v1,v2,v3,v4,v5,xs,xs1,xs2,xs3,xs4,xs5,_,_)=>(used,c,p,v,v1,ers xs3,xs4,ers xs5,v2,v3,v4,v5,ers xs,xs1,ers xs2,())
theorem red1_er (used c p v v1 v2 v3 v4 v5:Int) (xs:List TRt) (xs1:List Int) (xs2:List TRt) (xs3:List TRt) (xs4:List Int) (xs5:List TRt) (np:Nat) :
    L_impl_reduce_1 used c p v v1 (ers xs3) xs4 (ers xs5) v2 v3 v4 v5 (ers xs) xs1 (ers xs2)=(L_impl_reduce_t_1 used c p v v1 v2 v3 v4 v5 xs xs1 xs2 xs3 xs4 xs5 np).map F1 :=
  whileO_map (S:=S_impl_reduce_1) (T:=S_impl_reduce_t_1) (fun (used,c,p,v,v1,v2,v3,v4,v5,xs,xs1,xs2,xs3,xs4,xs5,_,_)=>(used,c,p,v,v1,ers xs3,xs4,ers xs5,v2,v3,v4,v5,ers xs,xs1,ers xs2,())) F1
    (fun (used,c,p,v,v1,v2,v3,v4,v5,xs,xs1,xs2,xs3,xs4,xs5,np,_)=>by
      simp only[S_impl_reduce_1,S_impl_reduce_t_1,cond_mapE,bind_mapE,at_er,map_bindE,Option.map_some,Sum.map_inl,Sum.map_inr]) (used,c,p,v,v1,v2,v3,v4,v5,xs,xs1,xs2,xs3,xs4,xs5,np,())
abbrev F4:(Bool × Int × Int × (List TRt) × (List Int) × (List TRt) × Nat × Unit) ⊕ (Int × Int × Int × Int × Int × Int × Int × Int × (List TRt) × (List TRt) × (List Int) × (List TRt) × (List Int) × (List TRt) × Nat × Unit)→(Bool × Int × Int × (List Rt) × (List Int) × (List Rt) × Unit) ⊕ (Int × Int × Int × Int × (List Rt) × (List Int) × (List Rt) × Int × Int × Int × Int × (List Rt) × (List Rt) × (List Int) × Unit) :=
  Sum.map (fun (b,v,v1,xs,xs1,xs2,_,_)=>(b,v,v1,ers xs,xs1,ers xs2,())) fun (used,c,v,v1,v2,v3,v4,v5,xs,xs1,xs2,xs3,xs4,xs5,_,_)=>(used,c,v,v1,ers xs3,xs4,ers xs5,v2,v3,v4,v5,ers xs,ers xs1,xs2,())
theorem red4_er (used c:Int) (lo len:Nat) (t t1 v v1 v2 v3 v4 v5:Int) (xs xs1:List TRt) (xs2:List Int) (xs3:List TRt) (xs4:List Int) (xs5:List TRt) (np:Nat) :
    L_impl_reduce_4 used c lo len t t1 v v1 (ers xs3) xs4 (ers xs5) v2 v3 v4 v5 (ers xs) (ers xs1) xs2=(L_impl_reduce_t_4 used c lo len t t1 v v1 v2 v3 v4 v5 xs xs1 xs2 xs3 xs4 xs5 np).map F4 :=
  whileO_map (S:=S_impl_reduce_4) (T:=S_impl_reduce_t_4) (fun (used,c,lo,len,t,t1,v,v1,v2,v3,v4,v5,xs,xs1,xs2,xs3,xs4,xs5,_,_)=>(used,c,lo,len,t,t1,v,v1,ers xs3,xs4,ers xs5,v2,v3,v4,v5,ers xs,ers xs1,xs2,())) F4
    (fun (used,c,lo,len,t,t1,v,v1,v2,v3,v4,v5,xs,xs1,xs2,xs3,xs4,xs5,np,_)=>by
      simp only[S_impl_reduce_4,S_impl_reduce_t_4,cond_mapE,bind_mapE,row_er,map_bindE,idx_mapE,cut_mapE,List.getElem?_map,er_neg,er_mag,er_den,red5_er (np:=np),Option.map_some,Sum.map_inl,Sum.map_inr,List.map_nil]) (used,c,lo,len,t,t1,v,v1,v2,v3,v4,v5,xs,xs1,xs2,xs3,xs4,xs5,np,())
end Go.Di
namespace Go.Di
theorem fold1 (l:List TRt) (e:TRt):List.map TRt.er l++[TRt.er e]=List.map TRt.er (l++[e]):=by simp
theorem foldN (l:List TRt) (r:Rt) (a b:Nat):List.map TRt.er l++[r]=List.map TRt.er (l++[⟨r.neg,⟨a,r.mag⟩,⟨b,r.den⟩⟩]):=by simp[er_mk]
theorem bindE {α β:Type} {o:Option α} {f g:α→Option β} (h:∀ a,f a=g a):o.bind f=o.bind g:=by rw[funext h]
theorem condE {α:Type} {b:Bool} {x x' y y':α} (h1:b=true→x=x') (h2:b=false→y=y'):cond b x y=cond b x' y':=by cases b with
  | true=>exact h1 rfl
  | false=>exact h2 rfl
abbrev F0:(Bool × Int × Int × (List TRt) × (List Int) × (List TRt) × Nat × Unit) ⊕ (Int × Int × Int × Int × (List TRt) × (List Int) × (List TRt) × (List TRt) × (List Int) × (List TRt) × Nat × Unit)→(Bool × Int × Int × (List Rt) × (List Int) × (List Rt) × Unit) ⊕ (Int × Int × (List Rt) × (List Int) × (List Rt) × Int × Int × (List Rt) × (List Int) × (List Rt) × Unit) :=
  Sum.map (fun (b,v,v1,xs,xs1,xs2,_,_)=>(b,v,v1,ers xs,xs1,ers xs2,())) fun (v,v1,v2,v3,xs,xs1,xs2,xs3,xs4,xs5,_,_)=>(v,v1,ers xs3,xs4,ers xs5,v2,v3,ers xs,xs1,ers xs2,())
theorem red0_er (used c v v1 v2 v3 v4 v5:Int) (xs:List TRt) (xs1:List Int) (xs2:List TRt) (xs3:List TRt) (xs4:List Int) (xs5:List TRt) (np:Nat) :
    L_impl_reduce_0 used c v v1 (ers xs3) xs4 (ers xs5) v2 v3 v4 v5 (ers xs) xs1 (ers xs2)=(L_impl_reduce_t_0 used c v v1 v2 v3 v4 v5 xs xs1 xs2 xs3 xs4 xs5 np).map F0 :=
  whileO_map (S:=S_impl_reduce_0) (T:=S_impl_reduce_t_0) (fun (used,c,v,v1,v2,v3,v4,v5,xs,xs1,xs2,xs3,xs4,xs5,_,_)=>(used,c,v,v1,ers xs3,xs4,ers xs5,v2,v3,v4,v5,ers xs,xs1,ers xs2,())) F0
    (fun (used,c,v,v1,v2,v3,v4,v5,xs,xs1,xs2,xs3,xs4,xs5,np,_)=>by
      simp only[S_impl_reduce_0,S_impl_reduce_t_0,cond_mapE,bind_mapE,red1_er (np:=np),map_bindE,Option.map_some,Sum.map_inl,Sum.map_inr]
      refine condE (fun _=>condE (fun _=>bindE fun ⟨used1,c1,p,v6,v7,v8,v9,v10,v11,xs6,xs7,xs8,xs9,xs10,xs11,np1,_⟩=>?_) fun _=>rfl) fun _=>rfl
      refine condE (fun _=>rfl) fun _=>condE (fun _=>?_) fun _=>?_
      · refine bindE fun r=>?_
        simp only[List.length_map,foldN xs8 r np1 (np1+1),row_er,map_bindE,red2_er (np:=np1+2)]
        refine bindE fun _=>bindE fun _=>bindE fun _=>bindE fun ⟨used2,c2,v12,v13,v14,v15,v16,v17,xs12,xs13,xs14,xs15,xs16,xs17,np2,_⟩=>?_
        simp only[idx_mapE,cut_mapE,List.getElem?_map,map_bindE,fold1,er_neg,er_mag,er_den,red3_er (np:=np2)]
        refine bindE fun _=>bindE fun _=>bindE fun e=>bindE fun _=>bindE fun ⟨used3,c3,lo,len,v18,v19,v20,v21,v22,v23,xs18,xs19,xs20,xs21,xs22,xs23,np3,_⟩=>?_
        simp only[red4_er (np:=np3),map_bindE]
        refine bindE fun r1=>condE (fun _=>rfl) fun _=>bindE fun r2=>?_
        cases r2 with
        | inl z=>rfl
        | inr z =>
          obtain ⟨used4,c4,v26,v27,v28,v29,v30,v31,xs27,xs28,xs29,xs30,xs31,xs32,np5,_⟩:=z
          show (guardO _).bind _=((guardO _).bind _).map _
          rw[bind_mapE]; rfl
      · simp only[row_er,idx_mapE,cut_mapE,List.getElem?_map,map_bindE,fold1,er_neg,er_mag,er_den,List.length_map,red3_er (np:=np1)]
        refine bindE fun _=>bindE fun _=>bindE fun e=>bindE fun _=>bindE fun ⟨used3,c3,lo,len,v18,v19,v20,v21,v22,v23,xs18,xs19,xs20,xs21,xs22,xs23,np3,_⟩=>?_
        simp only[red4_er (np:=np3),map_bindE]
        refine bindE fun r1=>condE (fun _=>rfl) fun _=>bindE fun r2=>?_
        cases r2 with
        | inl z=>rfl
        | inr z =>
          obtain ⟨used4,c4,v26,v27,v28,v29,v30,v31,xs27,xs28,xs29,xs30,xs31,xs32,np5,_⟩:=z
          show (guardO _).bind _=((guardO _).bind _).map _
          rw[bind_mapE]; rfl) (used,c,v,v1,v2,v3,v4,v5,xs,xs1,xs2,xs3,xs4,xs5,np,())
/-! ### The numbers stay distinct -/
def Idn (n:Nat) (l:List TRt):Prop:=(idsT l).Nodup∧∀ i∈idsT l,i < n
theorem Idn.mono {n m:Nat} {l:List TRt} (h:Idn n l) (hm:n≤m):Idn m l:=⟨h.1,fun i hi=>Nat.lt_of_lt_of_le (h.2 i hi) hm⟩
theorem idsT_set:∀ (l:List TRt) (i:Nat) (e:TRt) (x:Nat),x∈idsT (l.set i e)→x∈idsT l∨x=e.mag.id∨x=e.den.id
  | [],_,_,x,h => .inl h
  | r :: l,0,e,x,h=>by
    simp only[List.set_cons_zero,idsT,List.mem_cons] at h ⊢
    rcases h with h | h | h
    · exact .inr (.inl h)
    · exact .inr (.inr h)
    · exact .inl (.inr (.inr h))
  | r :: l,i+1,e,x,h=>by
    simp only[List.set_cons_succ,idsT,List.mem_cons] at h ⊢
    rcases h with h | h | h
    · exact .inl (.inl h)
    · exact .inl (.inr (.inl h))
    · rcases idsT_set l i e x h with h | h
      · exact .inl (.inr (.inr h))
      · exact .inr h
theorem idn_set {n m:Nat} {l:List TRt} {e:TRt} (h:Idn n l) (i:Nat) (ha:n≤e.mag.id) (hb:n≤e.den.id) (hab:e.mag.id≠e.den.id) (ham:e.mag.id < m) (hbm:e.den.id < m) (hnm:n≤m):Idn m (l.set i e):=by
  refine ⟨?_,fun x hx=>?_⟩
  · obtain ⟨h1,h2⟩:=h
    induction l generalizing i with
    | nil=>exact List.nodup_nil
    | cons r l ih =>
      simp only[idsT,List.nodup_cons,List.mem_cons,not_or] at h1 h2
      cases i with
      | zero =>
        simp only[List.set_cons_zero,idsT,List.nodup_cons,List.mem_cons,not_or]
        have hl:∀ x∈idsT l,x < n:=fun x hx=>h2 x (.inr (.inr hx))
        exact ⟨⟨hab,fun hx=>by have:=hl _ hx; omega⟩,fun hx=>by have:=hl _ hx; omega,h1.2.2⟩
      | succ i =>
        simp only[List.set_cons_succ,idsT,List.nodup_cons,List.mem_cons,not_or]
        have k:=ih i h1.2.2 (fun x hx=>h2 x (.inr (.inr hx)))
        have out:∀ x,x < n→x ∉ idsT l→x ∉ idsT (l.set i e):=fun x hx hn hh=>by
          rcases idsT_set l i e x hh with h | h | h
          · exact hn h
          · omega
          · omega
        exact ⟨⟨h1.1.1,out _ (h2 _ (.inl rfl)) h1.1.2⟩,out _ (h2 _ (.inr (.inl rfl))) h1.2.1,k⟩
  · rcases idsT_set l i e x hx with h' | h' | h'
    · exact Nat.lt_of_lt_of_le (h.2 x h') hnm
    · omega
    · omega
theorem idsT_perm {l m:List TRt} (h:l.Perm m):(idsT l).Perm (idsT m):=by
  induction h with
  | nil=>exact .nil
  | cons r _ ih=>exact (ih.cons _).cons _
  | swap r s l =>
    simp only[idsT]
    exact ((List.perm_append_comm (l₁:=[s.mag.id,s.den.id]) (l₂:=[r.mag.id,r.den.id])).append_right (idsT l))
  | trans _ _ ih1 ih2=>exact ih1.trans ih2
theorem swap_perm {α:Type} {l:List α} {i j:Nat} {a b:α} (hi:l[i]? = some a) (hj:l[j]? = some b):((l.set i b).set j a).Perm l:=by
  obtain ⟨h1,h1'⟩:=List.getElem?_eq_some_iff.1 hi
  obtain ⟨h2,h2'⟩:=List.getElem?_eq_some_iff.1 hj
  rw[← h1',← h2']
  exact List.set_set_perm h1 h2
theorem idn_perm {n:Nat} {l m:List TRt} (h:Idn n l) (hp:m.Perm l):Idn n m:=⟨(idsT_perm hp).nodup_iff.2 h.1,fun i hi=>h.2 i ((idsT_perm hp).mem_iff.1 hi)⟩
theorem idn_tokz:∀ (n:Nat) (l:List Rt),(idsT (tokz n l)).Nodup∧∀ i∈idsT (tokz n l),n≤i∧i < n+2 * l.length
  | _,[]=>⟨List.nodup_nil,fun i h=>by cases h⟩
  | n, r :: l=>by
    obtain ⟨h1,h2⟩:=idn_tokz (n+2) l
    simp only[tokz,idsT,List.nodup_cons,List.mem_cons,not_or,List.length_cons]
    refine ⟨⟨⟨by omega,fun h=>?_⟩,fun h=>?_,h1⟩,fun i hi=>?_⟩
    · have:=h2 _ h; omega
    · have:=h2 _ h; omega
    · rcases hi with rfl | rfl | hi
      · omega
      · omega
      · have:=h2 _ hi; omega
theorem nodupN_iff:∀ {l:List Nat},nodupN l=true↔l.Nodup
  | []=>by simp[nodupN]
  | a :: l=>by
    unfold nodupN
    rw[List.nodup_cons]
    split
    · rename_i h
      constructor
      · intro e; cases e
      · intro e; exact absurd (memN_iff.1 h) e.1
    · rename_i h
      rw[nodupN_iff]
      constructor
      · intro e; exact ⟨(fun hm=>by rw[memN_iff.2 hm] at h; cases h),e⟩
      · intro e; exact e.2
end Go.Di
namespace Go.Di
theorem bindS {α β:Type} {o:Option α} {f:α→Option β} {b:β} (h:o.bind f=some b):∃ a,o=some a∧f a=some b:=by
  cases o with
  | none=>cases h
  | some a=>exact ⟨a,rfl,h⟩
theorem condS {α:Type} {b:Bool} {x y:Option α} {z:α} (h:cond b x y=some z):(b=true∧x=some z)∨(b=false∧y=some z):=by
  cases b with
  | true=>exact .inl ⟨rfl,h⟩
  | false=>exact .inr ⟨rfl,h⟩
theorem whileO_keeps {τ θ:Type} {T:τ→Option (τ ⊕ θ)} (I:τ→Prop) (Q:θ→Prop) (h:∀ t r,I t→T t=some r→Sum.elim I Q r) {t:τ} {y:θ} (hi:I t) (hy:whileO T t=some y):Q y :=
  whileO_keep I Q (fun t t' hi ht=>h t (.inl t') hi ht) (fun t y hi ht=>h t (.inr y) hi ht) hi hy
theorem row_T {r c i:Int} {l x0:List TRt} {w:Nat × Nat} (h:M_impl_Matrix_row_Td ⟨r,c,l⟩ i=some (w,x0)):x0=l:=by
  unfold M_impl_Matrix_row_Td at h
  obtain ⟨_,_,h⟩:=bindS h
  cases h; rfl
def Q5:Int × Int × Nat × Nat × Nat × Nat × Int × Int × Int × Int × Int × Int × Int × Int × (List TRt) × (List TRt) × (List Int) × (List TRt) × (List Int) × (List TRt) × Nat × Unit→Prop:=fun (_,_,_,_,_,_,_,_,_,_,_,_,_,_,xs,_,_,_,_,_,np,_)=>Idn np xs
def Q3:Int × Int × Nat × Nat × Int × Int × Int × Int × Int × Int × (List TRt) × (List TRt) × (List Int) × (List TRt) × (List Int) × (List TRt) × Nat × Unit→Prop:=fun (_,_,_,_,_,_,_,_,_,_,xs,_,_,_,_,_,np,_)=>Idn np xs
def Q2:Int × Int × Int × Int × Int × Int × Int × Int × (List TRt) × (List TRt) × (List Int) × (List TRt) × (List Int) × (List TRt) × Nat × Unit→Prop:=fun (_,_,_,_,_,_,_,_,xs,_,_,_,_,_,np,_)=>Idn np xs
def Q1:Int × Int × Int × Int × Int × Int × Int × Int × Int × (List TRt) × (List Int) × (List TRt) × (List TRt) × (List Int) × (List TRt) × Nat × Unit→Prop:=fun (_,_,_,_,_,_,_,_,_,xs,_,_,_,_,_,np,_)=>Idn np xs
def Q0:Int × Int × Int × Int × (List TRt) × (List Int) × (List TRt) × (List TRt) × (List Int) × (List TRt) × Nat × Unit→Prop:=fun (_,_,_,_,xs,_,_,_,_,_,np,_)=>Idn np xs
def QE:Bool × Int × Int × (List TRt) × (List Int) × (List TRt) × Nat × Unit→Prop:=fun (_,_,_,xs,_,_,_,_)=>(idsT xs).Nodup
def J5:Int × Int × Nat × Nat × Nat × Nat × Int × Int × Int × Int × Int × Int × Int × Int × Int × Int × Bool × Tk × Tk × (List TRt) × (List TRt) × (List Int) × (List TRt) × (List Int) × (List TRt) × Nat × Unit→Prop:=fun (_,_,_,_,_,_,_,_,_,_,_,_,_,_,_,_,_,_,_,xs,_,_,_,_,_,np,_)=>Idn np xs
def J4:Int × Int × Nat × Nat × Int × Int × Int × Int × Int × Int × Int × Int × (List TRt) × (List TRt) × (List Int) × (List TRt) × (List Int) × (List TRt) × Nat × Unit→Prop:=fun (_,_,_,_,_,_,_,_,_,_,_,_,xs,_,_,_,_,_,np,_)=>Idn np xs
def J3:Int × Int × Nat × Nat × Int × Int × Int × Int × Int × Int × Int × Int × Bool × Tk × Tk × (List TRt) × (List TRt) × (List Int) × (List TRt) × (List Int) × (List TRt) × Nat × Unit→Prop:=fun (_,_,_,_,_,_,_,_,_,_,_,_,_,_,_,xs,_,_,_,_,_,np,_)=>Idn np xs
def J2:Int × Int × Nat × Nat × Nat × Nat × Int × Int × Int × Int × Int × Int × Int × Int × (List TRt) × (List TRt) × (List Int) × (List TRt) × (List Int) × (List TRt) × Nat × Unit→Prop:=fun (_,_,_,_,_,_,_,_,_,_,_,_,_,_,xs,_,_,_,_,_,np,_)=>Idn np xs
def J1:Int × Int × Int × Int × Int × Int × Int × Int × Int × (List TRt) × (List Int) × (List TRt) × (List TRt) × (List Int) × (List TRt) × Nat × Unit→Prop:=fun (_,_,_,_,_,_,_,_,_,xs,_,_,_,_,_,np,_)=>Idn np xs
def J0:Int × Int × Int × Int × Int × Int × Int × Int × (List TRt) × (List Int) × (List TRt) × (List TRt) × (List Int) × (List TRt) × Nat × Unit→Prop:=fun (_,_,_,_,_,_,_,_,xs,_,_,_,_,_,np,_)=>Idn np xs
theorem red5_idn {used c:Int} {lo len lo1 len1:Nat} {t t1 t2 t3 v v1 v2 v3 v4 v5:Int} {v6:Bool} {v7 v8:Tk} {xs xs1:List TRt} {xs2:List Int} {xs3:List TRt} {xs4:List Int} {xs5:List TRt} {np:Nat} (hi:Idn np xs)
    {y} (h:L_impl_reduce_t_5 used c lo len lo1 len1 t t1 t2 t3 v v1 v2 v3 v4 v5 v6 v7 v8 xs xs1 xs2 xs3 xs4 xs5 np=some y):Q5 y :=
  whileO_keeps (T:=S_impl_reduce_t_5) (t:=(used,c,lo,len,lo1,len1,t,t1,t2,t3,v,v1,v2,v3,v4,v5,v6,v7,v8,xs,xs1,xs2,xs3,xs4,xs5,np,())) J5 Q5 (fun (used,c,lo,len,lo1,len1,t,t1,t2,t3,v,v1,v2,v3,v4,v5,v6,v7,v8,xs,xs1,xs2,xs3,xs4,xs5,np,_) r hi h=>by
    have hi:Idn np xs:=hi
    simp only[S_impl_reduce_t_5] at h
    rcases condS h with ⟨_,h⟩ | ⟨_,h⟩
    · obtain ⟨_,_,h⟩:=bindS h
      obtain ⟨_,_,h⟩:=bindS h
      obtain ⟨_,_,h⟩:=bindS h
      obtain ⟨_,_,h⟩:=bindS h
      obtain ⟨_,_,h⟩:=bindS h
      obtain ⟨_,_,h⟩:=bindS h
      obtain ⟨_,_,h⟩:=bindS h
      cases h
      exact idn_set hi _ (by simp) (by simp) (by simp) (by simp) (by simp) (by simp)
    · cases h; exact hi) hi h
theorem red3_idn {used c:Int} {lo len:Nat} {t t1 v v1 v2 v3 v4 v5:Int} {v6:Bool} {v7 v8:Tk} {xs xs1:List TRt} {xs2:List Int} {xs3:List TRt} {xs4:List Int} {xs5:List TRt} {np:Nat} (hi:Idn np xs)
    {y} (h:L_impl_reduce_t_3 used c lo len t t1 v v1 v2 v3 v4 v5 v6 v7 v8 xs xs1 xs2 xs3 xs4 xs5 np=some y):Q3 y :=
  whileO_keeps (T:=S_impl_reduce_t_3) (t:=(used,c,lo,len,t,t1,v,v1,v2,v3,v4,v5,v6,v7,v8,xs,xs1,xs2,xs3,xs4,xs5,np,())) J3 Q3 (fun (used,c,lo,len,t,t1,v,v1,v2,v3,v4,v5,v6,v7,v8,xs,xs1,xs2,xs3,xs4,xs5,np,_) r hi h=>by
    have hi:Idn np xs:=hi
    simp only[S_impl_reduce_t_3] at h
    rcases condS h with ⟨_,h⟩ | ⟨_,h⟩
    · obtain ⟨_,_,h⟩:=bindS h
      obtain ⟨_,_,h⟩:=bindS h
      obtain ⟨_,_,h⟩:=bindS h
      obtain ⟨_,_,h⟩:=bindS h
      cases h
      exact idn_set hi _ (by simp) (by simp) (by simp) (by simp) (by simp) (by simp)
    · cases h; exact hi) hi h
theorem red2_idn {used c:Int} {lo len lo1 len1:Nat} {t t1 v v1 v2 v3 v4 v5:Int} {xs xs1:List TRt} {xs2:List Int} {xs3:List TRt} {xs4:List Int} {xs5:List TRt} {np:Nat} (hi:Idn np xs)
    {y} (h:L_impl_reduce_t_2 used c lo len lo1 len1 t t1 v v1 v2 v3 v4 v5 xs xs1 xs2 xs3 xs4 xs5 np=some y):Q2 y :=
  whileO_keeps (T:=S_impl_reduce_t_2) (t:=(used,c,lo,len,lo1,len1,t,t1,v,v1,v2,v3,v4,v5,xs,xs1,xs2,xs3,xs4,xs5,np,())) J2 Q2 (fun (used,c,lo,len,lo1,len1,t,t1,v,v1,v2,v3,v4,v5,xs,xs1,xs2,xs3,xs4,xs5,np,_) r hi h=>by
    have hi:Idn np xs:=hi
    simp only[S_impl_reduce_t_2] at h
    rcases condS h with ⟨_,h⟩ | ⟨_,h⟩
    · obtain ⟨_,_,h⟩:=bindS h
      obtain ⟨e,he,h⟩:=bindS h
      obtain ⟨_,_,h⟩:=bindS h
      obtain ⟨e1,he1,h⟩:=bindS h
      obtain ⟨_,_,h⟩:=bindS h
      obtain ⟨_,_,h⟩:=bindS h
      cases h
      exact idn_perm hi (swap_perm he1 he)
    · cases h; exact hi) hi h
theorem red1_idn {used c p v v1 v2 v3 v4 v5:Int} {xs:List TRt} {xs1:List Int} {xs2:List TRt} {xs3:List TRt} {xs4:List Int} {xs5:List TRt} {np:Nat} (hi:Idn np xs)
    {y} (h:L_impl_reduce_t_1 used c p v v1 v2 v3 v4 v5 xs xs1 xs2 xs3 xs4 xs5 np=some y):Q1 y :=
  whileO_keeps (T:=S_impl_reduce_t_1) (t:=(used,c,p,v,v1,v2,v3,v4,v5,xs,xs1,xs2,xs3,xs4,xs5,np,())) J1 Q1 (fun (used,c,p,v,v1,v2,v3,v4,v5,xs,xs1,xs2,xs3,xs4,xs5,np,_) r hi h=>by
    have hi:Idn np xs:=hi
    simp only[S_impl_reduce_t_1] at h
    rcases condS h with ⟨_,h⟩ | ⟨_,h⟩
    · obtain ⟨_,_,h⟩:=bindS h
      obtain ⟨_,_,h⟩:=bindS h
      rcases condS h with ⟨_,h⟩ | ⟨_,h⟩<;>(cases h; exact hi)
    · cases h; exact hi) hi h
theorem red4_idn {used c:Int} {lo len:Nat} {t t1 v v1 v2 v3 v4 v5:Int} {xs xs1:List TRt} {xs2:List Int} {xs3:List TRt} {xs4:List Int} {xs5:List TRt} {np:Nat} (hi:Idn np xs)
    {y} (h:L_impl_reduce_t_4 used c lo len t t1 v v1 v2 v3 v4 v5 xs xs1 xs2 xs3 xs4 xs5 np=some y):Sum.elim QE Q2 y :=
  whileO_keeps (T:=S_impl_reduce_t_4) (t:=(used,c,lo,len,t,t1,v,v1,v2,v3,v4,v5,xs,xs1,xs2,xs3,xs4,xs5,np,())) J4 (Sum.elim QE Q2) (fun (used,c,lo,len,t,t1,v,v1,v2,v3,v4,v5,xs,xs1,xs2,xs3,xs4,xs5,np,_) r hi h=>by
    have hi:Idn np xs:=hi
    simp only[S_impl_reduce_t_4] at h
    rcases condS h with ⟨_,h⟩ | ⟨_,h⟩
    · obtain ⟨⟨w,x0⟩,hr,h⟩:=bindS h
      rw[row_T hr] at h
      rcases condS h with ⟨_,h⟩ | ⟨_,h⟩
      · cases h; exact hi
      · obtain ⟨_,_,h⟩:=bindS h
        obtain ⟨_,_,h⟩:=bindS h
        obtain ⟨_,_,h⟩:=bindS h
        rcases condS h with ⟨_,h⟩ | ⟨_,h⟩
        · cases h; exact hi
        · obtain ⟨_,_,h⟩:=bindS h
          obtain ⟨_,_,h⟩:=bindS h
          obtain ⟨y,h5,h⟩:=bindS h
          have k:=red5_idn hi h5
          obtain ⟨_,_,h⟩:=bindS h
          rcases condS h with ⟨_,h⟩ | ⟨_,h⟩
          · cases h; exact List.nodup_nil
          · cases h; exact k
    · cases h; exact hi) hi h
theorem red0_idn {used c v v1 v2 v3 v4 v5:Int} {xs:List TRt} {xs1:List Int} {xs2:List TRt} {xs3:List TRt} {xs4:List Int} {xs5:List TRt} {np:Nat} (hi:Idn np xs)
    {y} (h:L_impl_reduce_t_0 used c v v1 v2 v3 v4 v5 xs xs1 xs2 xs3 xs4 xs5 np=some y):Sum.elim QE Q0 y :=
  whileO_keeps (T:=S_impl_reduce_t_0) (t:=(used,c,v,v1,v2,v3,v4,v5,xs,xs1,xs2,xs3,xs4,xs5,np,())) J0 (Sum.elim QE Q0) (fun (used,c,v,v1,v2,v3,v4,v5,xs,xs1,xs2,xs3,xs4,xs5,np,_) r hi h=>by
    have hi:Idn np xs:=hi
    simp only[S_impl_reduce_t_0] at h
    rcases condS h with ⟨_,h⟩ | ⟨_,h⟩
    · rcases condS h with ⟨_,h⟩ | ⟨_,h⟩
      · obtain ⟨⟨used1,c1,p,v6,v7,v8,v9,v10,v11,xs6,xs7,xs8,xs9,xs10,xs11,np1,_⟩,h1,h⟩:=bindS h
        have k1:Idn np1 xs6:=red1_idn hi h1
        rcases condS h with ⟨_,h⟩ | ⟨_,h⟩
        · cases h; exact k1
        · rcases condS h with ⟨_,h⟩ | ⟨_,h⟩
          · obtain ⟨_,_,h⟩:=bindS h
            obtain ⟨_,_,h⟩:=bindS h
            obtain ⟨⟨w,x0⟩,hr,h⟩:=bindS h
            rw[row_T hr] at h
            obtain ⟨⟨w',x0'⟩,hr,h⟩:=bindS h
            rw[row_T hr] at h
            obtain ⟨⟨used2,c2,v12,v13,v14,v15,v16,v17,xs12,xs13,xs14,xs15,xs16,xs17,np2,_⟩,h2,h⟩:=bindS h
            have k2:Idn np2 xs12:=red2_idn (k1.mono (Nat.le_add_right np1 2)) h2
            obtain ⟨⟨w3,x03⟩,hr,h⟩:=bindS h
            rw[row_T hr] at h
            obtain ⟨_,_,h⟩:=bindS h
            obtain ⟨_,_,h⟩:=bindS h
            obtain ⟨_,_,h⟩:=bindS h
            obtain ⟨⟨used3,c3,lo,len,v18,v19,v20,v21,v22,v23,xs18,xs19,xs20,xs21,xs22,xs23,np3,_⟩,h3,h⟩:=bindS h
            have k3:Idn np3 xs18:=red3_idn k2 h3
            obtain ⟨_,_,h⟩:=bindS h
            rcases condS h with ⟨_,h⟩ | ⟨_,h⟩
            · cases h; exact List.nodup_nil
            · obtain ⟨r2,h4,h⟩:=bindS h
              have k4:=red4_idn k3 h4
              cases r2 with
              | inl z=>cases h; exact k4
              | inr z =>
                obtain ⟨used4,c4,v26,v27,v28,v29,v30,v31,xs27,xs28,xs29,xs30,xs31,xs32,np5,_⟩:=z
                obtain ⟨_,_,h⟩:=bindS h
                cases h; exact k4
          · obtain ⟨⟨w3,x03⟩,hr,h⟩:=bindS h
            rw[row_T hr] at h
            obtain ⟨_,_,h⟩:=bindS h
            obtain ⟨_,_,h⟩:=bindS h
            obtain ⟨_,_,h⟩:=bindS h
            obtain ⟨⟨used3,c3,lo,len,v18,v19,v20,v21,v22,v23,xs18,xs19,xs20,xs21,xs22,xs23,np3,_⟩,h3,h⟩:=bindS h
            have k3:Idn np3 xs18:=red3_idn k1 h3
            obtain ⟨_,_,h⟩:=bindS h
            rcases condS h with ⟨_,h⟩ | ⟨_,h⟩
            · cases h; exact List.nodup_nil
            · obtain ⟨r2,h4,h⟩:=bindS h
              have k4:=red4_idn k3 h4
              cases r2 with
              | inl z=>cases h; exact k4
              | inr z =>
                obtain ⟨used4,c4,v26,v27,v28,v29,v30,v31,xs27,xs28,xs29,xs30,xs31,xs32,np5,_⟩:=z
                obtain ⟨_,_,h⟩:=bindS h
                cases h; exact k4
      · cases h; exact hi
    · cases h; exact hi) hi h
theorem guard_idn {l:List TRt} (h:(idsT l).Nodup):guardO (nodupN (idsT l++([]:List Nat)))=some ():=by
  rw[List.append_nil,nodupN_iff.2 h]; rfl
theorem reduce_t {m:Mx} {R C:Int} {cs:List Rt} {pv:List Int} {fs:List Rt} {b:Bool} (h:M_impl_reduce m=some (⟨R,C,cs,pv,fs⟩,b)):M_impl_reduce_t m=some (⟨R,C,cs,pv⟩,b):=by
  unfold M_impl_reduce at h
  obtain ⟨r,hr,h⟩:=bindS h
  obtain ⟨y,hy,h⟩:=bindS h
  have e:=red0_er 0 0 0 0 m.rows m.cols m.rows m.cols (tokz 0 r) [] [] [] [] [] (0+2 * r.length)
  rw[show ers (tokz 0 r)=r from tokz_er 0 r,show ers ([]:List TRt)=[] from rfl,hy] at e
  cases hz:L_impl_reduce_t_0 0 0 0 0 m.rows m.cols m.rows m.cols (tokz 0 r) [] [] [] [] [] (0+2 * r.length) with
  | none=>rw[hz] at e; cases e
  | some z =>
    rw[hz] at e
    have e:=Option.some.inj e
    subst e
    have hk:=red0_idn ⟨(idn_tokz 0 r).1,fun i hi=>((idn_tokz 0 r).2 i hi).2⟩ hz
    unfold M_impl_reduce_t
    rw[hr,Option.bind_some]
    rw[hz,Option.bind_some]
    cases z with
    | inl z =>
      obtain ⟨t,v,v1,xs,xs1,_,_,_⟩:=z
      simp only[]
      rw[guard_idn hk]
      cases h; rfl
    | inr z =>
      obtain ⟨_,_,v4,v5,xs3,xs4,_,_,_,_,_,_⟩:=z
      simp only[]
      rw[guard_idn hk.1]
      cases h; rfl
end Go.Di
namespace Go.Di
theorem Reduce_t {m R:Mx} {pv:List Int} {b:Bool} (h:M_impl_Reduce m=some (R,pv,b)):M_impl_Reduce_t m=some (R,pv,b):=by
  unfold M_impl_Reduce at h
  unfold M_impl_Reduce_t
  obtain ⟨r,hr,h⟩:=bindS h
  rw[hr,Option.bind_some]
  rcases condS h with ⟨c,h⟩ | ⟨c,h⟩
  · rw[c,cond_true]; exact h
  · rw[c,cond_false]
    obtain ⟨⟨⟨R1,C1,cs,pv1,fs⟩,b1⟩,h1,h⟩:=bindS h
    rw[reduce_t h1,Option.bind_some]
    exact h
theorem reduce_few {m R:Mx} {pv:List Int} {b:Bool} (hm:lfit Rt.fit m.cells) (h:M_impl_Reduce m=some (R,pv,b)):pv.length≤24:=by
  unfold M_impl_Reduce at h
  rw[impl_mxOk hm,Option.bind_some] at h
  cases hb:mxB m with
  | false=>rw[hb] at h; cases h; exact Nat.zero_le _
  | true =>
    rw[hb,Bool.not_true,cond_false] at h
    obtain ⟨r,c,q,hq⟩:=mx_cases hb
    rcases reduce_cases hq with ⟨f,_,inv,_,_,e4⟩ | ⟨_,_,e4⟩
    · rw[e4] at h
      cases h
      exact Nat.le_trans inv.used hq.r24
    · rw[e4] at h
      cases h
      exact Nat.zero_le _
theorem law_Reduce (m:Mx) (h:CK.wf (.sl .rat) m.cells):M_laws_FnExactReduce m=some true:=by
  unfold M_laws_FnExactReduce
  refine sz_go (sz_mx h (by omega) (by omega)) fun r r0 r1=>?_
  have f:=rfit_lsz (l:=m.cells) (by omega)
  have f1:=f.few
  obtain ⟨R,pv,b,hs,hi',g⟩:=reduce_both f.fit
  have hl:=reduce_few f.fit hi'
  have hi:=Reduce_t hi'
  have g1:=g.few
  simp (disch:=omega) only[to_mx f.fit,hs,hi,Option.bind_some,eq_mx f.fit,eq_mx g.fit,eq_ints,eqB_self,beq_self_eq_true,Bool.not_true,cond_false,mark_mx f.fit f.few,mark_ints,mark_mx g.fit g.few,held_ints,held_mx g.fit g.few,dneg,bneSelf]
end Go.Di
