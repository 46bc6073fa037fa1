/-
  Own work: part 6 of the texts that the proof of the given statement leans on.
-/
import Derived.Test.YtdkfcdncamimmaaGreatDoorZE00
noncomputable section
namespace Go.Di
theorem zG6 {y x0 out:List Int} {k:Nat} {f top q:Int} (hy:Dig y) (hx:∀ p,p < k+y.length→∀ d,x0[p]? = some d→0≤d∧d < 1000000000) (hfit:k+y.length < x0.length) (hl:x0.length≤1073741824) :
    ∃ c x,zhm f (y.length:Int) top (k:Int) q 0 (y.length:Int) 0 x0 y out=some (f,(y.length:Int),top,(k:Int),q,c,x,y,out,())∧BackI y x0 k y.length c x:=by
  unfold zhm
  obtain ⟨r,h1,c,x,rfl,h2⟩:=zcz (S:=zdp) (fun j z=>∃ c x,z=(f,(y.length:Int),top,(k:Int),q,c,(y.length:Int),(j:Int),x,y,out,())∧BackI y x0 k j c x) y.length (fun r=>∃ c x,r=(f,(y.length:Int),top,(k:Int),q,c,x,y,out,())∧BackI y x0 k y.length c x)
    (fun j hj z hz=>by
      obtain ⟨c,x,rfl,hI⟩:=hz
      left
      have hk:k+j < x.length:=by rw[hI.len]; omega
      have he:=hI.dig (k+j) (by omega) _ (List.getElem?_eq_getElem hk)
      have hyj:=hy.at hj
      have hc:=hI.c0
      have e1:IntKind.i64.wrap ((k:Int)+(j:Int))=((k+j:Nat):Int):=by rw[wrap_i64 (by omega) (by omega)]; omega
      have e2:IntKind.i64.wrap ((j:Int)+1)=((j+1:Nat):Int):=by rw[wrap_i64 (by omega) (by omega)]; omega
      simp only[zdp,dlt hj,cond_true,e1,e2,zaT hk,zaT hj,Int.toNat_natCast,List.getElem?_eq_getElem hk,List.getElem?_eq_getElem hj,Option.bind_some]
      rw[wrap_i64 (n:=x[k+j]+y[j]) (by omega) (by omega),wrap_i64 (n:=x[k+j]+y[j]+c) (by omega) (by omega)]
      by_cases hge:x[k+j]+y[j]+c ≥ 1000000000
      · rw[decide_eq_true hge,cond_true,wrap_i64 (n:=x[k+j]+y[j]+c - 1000000000) (by omega) (by omega)]
        exact ⟨_,rfl,_,_,rfl,hI.step hj hk (by omega) (by omega) (by omega)⟩
      · rw[decide_eq_false hge,cond_false]
        exact ⟨_,rfl,_,_,rfl,hI.step hj hk (by omega) (by omega) (by omega)⟩)
    (fun z hz=>by
      obtain ⟨c,x,rfl,hI⟩:=hz
      exact ⟨_,by simp[zdp],c,x,rfl,hI⟩)
    (x:=(f,(y.length:Int),top,(k:Int),q,0,(y.length:Int),0,x0,y,out,())) ⟨0,x0,rfl,⟨rfl,hx,by omega,fun _ _=>rfl,fun _ _=>rfl,by simp[nv]⟩⟩
  exact ⟨c,x,h1,h2⟩
end Go.Di
namespace Go.Di
theorem guess_loop {x y out:List Int} {k n:Nat} {f top q r Q:Int} {xn x1 x2 y2:Int} (hn:2≤n) (hl:x.length≤1073741824) (hkn:k+n < x.length) (hyn:y.length=n)
    (hx2:x[k+n - 2]? = some x2) (hy2:y[n - 2]? = some y2) (b2:0≤x2∧x2 < 1000000000) (c2:0≤y2∧y2 < 1000000000) (bn:0≤xn∧xn≤top) (b1:0≤x1∧x1 < 1000000000) (ht:1≤top∧top < 1000000000)
    (hQ:0≤Q∧Q < 1000000000) (hQ2:Q * (top * 1000000000+y2)≤(xn * 1000000000+x1) * 1000000000+x2)
    (h0:q * top+r=xn * 1000000000+x1) (hr:0≤r∧r < 1000000000) (hqQ:Q≤q) :
    ∃ q',zho f (n:Int) top (k:Int) q r x y out=some (f,(n:Int),top,(k:Int),q',x,y,out,())∧Q≤q'∧q' < 1000000000∧q' * (top * 1000000000+y2)≤(xn * 1000000000+x1) * 1000000000+x2:=by
  unfold zho
  obtain ⟨z, h1,q',rfl,h2⟩:=zcI (S:=zdr) (fun z=>∃ q r,z=(f,(n:Int),top,(k:Int),q,r,x,y,out,())∧q * top+r=xn * 1000000000+x1∧0≤r∧r < 1000000000∧Q≤q) (fun z=>z.2.2.2.2.1.toNat)
    (fun z=>∃ q',z=(f,(n:Int),top,(k:Int),q',x,y,out,())∧Q≤q'∧q' < 1000000000∧q' * (top * 1000000000+y2)≤(xn * 1000000000+x1) * 1000000000+x2)
    (fun z hz => by
      obtain ⟨q,r,rfl,e0,r0,r1,hqQ⟩:=hz
      have ey:IntKind.i64.wrap ((n:Int) - 2)=((n - 2:Nat):Int):=by rw[wrap_i64 (by omega) (by omega)]; omega
      have ex:IntKind.i64.wrap ((IntKind.i64.wrap ((k:Int)+(n:Int))) - 2)=((k+n - 2:Nat):Int):=by rw[wrap_i64 (n:=(k:Int)+n) (by omega) (by omega),wrap_i64 (by omega) (by omega)]; omega
      have er:IntKind.i64.wrap (r+top)=r+top:=wrap_i64 (by omega) (by omega)
      have hqb:q≤2000000000000000000:=by
        rcases Int.lt_or_le q 0 with h | h
        · omega
        · have h3:q * 1≤q * top:=Int.mul_le_mul_of_nonneg_left ht.1 h
          omega
      have eq1:IntKind.i64.wrap (q - 1)=q - 1:=wrap_i64 (by omega) (by omega)
      -- one down
      have down:Q < q→(∃ z,cond (decide (r+top ≥ 1000000000)) (some (Sum.inr (f,(n:Int),top,(k:Int),q - 1,x,y,out,()))) (some (.inl (f,(n:Int),top,(k:Int),q - 1,r+top,x,y,out,())))=some (.inl z)∧(∃ q r,z=(f,(n:Int),top,(k:Int),q,r,x,y,out,())∧q * top+r=xn * 1000000000+x1∧0≤r∧r < 1000000000∧Q≤q)∧z.2.2.2.2.1.toNat < q.toNat) ∨
          ∃ w,cond (decide (r+top ≥ 1000000000)) (some (Sum.inr (f,(n:Int),top,(k:Int),q - 1,x,y,out,()))) (some (.inl (f,(n:Int),top,(k:Int),q - 1,r+top,x,y,out,())))=some (.inr w)∧∃ q',w=(f,(n:Int),top,(k:Int),q',x,y,out,())∧Q≤q'∧q' < 1000000000∧q' * (top * 1000000000+y2)≤(xn * 1000000000+x1) * 1000000000+x2:=by
        intro hlt
        have e1:(q - 1) * top+(r+top)=xn * 1000000000+x1:=by rw[← e0]; grind
        by_cases hb:r+top ≥ 1000000000
        · right
          rw[decide_eq_true hb,cond_true]
          have hq1:q - 1 < 1000000000:=by
            rcases Int.lt_or_le (q - 1) 1000000000 with h | h
            · exact h
            · exfalso
              have h3:1000000000 * top≤(q - 1) * top:=Int.mul_le_mul_of_nonneg_right h (by omega)
              have h4:xn * 1000000000≤top * 1000000000:=Int.mul_le_mul_of_nonneg_right bn.2 (by omega)
              omega
          refine ⟨_,rfl,_,rfl,by omega,hq1,?_⟩
          have h5:(q - 1) * y2≤999999999 * 999999999:=Int.mul_le_mul (by omega) (by omega) c2.1 (by omega)
          have h6:(q - 1) * (top * 1000000000+y2)=((q - 1) * top) * 1000000000+(q - 1) * y2:=by grind
          rw[h6]
          generalize (q - 1) * top=A at *
          omega
        · left
          rw[decide_eq_false hb,cond_false]
          exact ⟨_,rfl,⟨_,_,rfl,e1,by omega,by omega,by omega⟩,by simp; omega⟩
      by_cases hge:q ≥ 1000000000
      · simp only[zdr,decide_eq_true hge,cond_true,er,eq1]
        exact down (by omega)
      · have hqy:0≤q * y2:=Int.mul_nonneg (by omega) c2.1
        have hqy2:q * y2≤999999999 * 999999999:=Int.mul_le_mul (by omega) (by omega) c2.1 (by omega)
        simp only[zdr,decide_eq_false hge,cond_false,ey,ex,zf0 hy2,zf0 hx2,hy2,hx2,Int.toNat_natCast,Option.bind_some,er,eq1]
        rw[wrap_i64 (n:=q * y2) (by omega) (by omega),wrap_i64 (n:=r * 1000000000) (by omega) (by omega),wrap_i64 (n:=r * 1000000000+x2) (by omega) (by omega)]
        have h6:q * (top * 1000000000+y2)=(q * top) * 1000000000+q * y2:=by grind
        by_cases hgt:q * y2 > r * 1000000000+x2
        · rw [decide_eq_true hgt,cond_true]
          refine down ?_
          rcases Int.lt_or_le Q q with h | h
          · exact h
          · exfalso
            have:q=Q:=by omega
            subst this
            rw[h6] at hQ2
            generalize q * top=A at *
            omega
        · rw[decide_eq_false hgt,cond_false]
          right
          refine ⟨_,rfl,_,rfl,hqQ,by omega,?_⟩
          rw[h6]
          generalize q * top=A at *
          omega)
    (x:=(f,(n:Int),top,(k:Int),q,r,x,y,out,())) ⟨q,r,rfl,h0,hr.1,hr.2,hqQ⟩
  exact ⟨q',h1,h2⟩
end Go.Di
namespace Go.Di
theorem guess_near {p X Y X3 Y2 xl yl Q q top:Int} (hp:0 < p) (hX:X=xl+p * X3) (hxl:0≤xl∧xl < p) (hY:Y=yl+p * Y2) (hyl:0≤yl∧yl < p) (hY0:0 < Y) (htop:top * 1000000000≤Y2) (ht:1≤top)
    (hQ:Q=X / Y) (hq0:0≤q) (hqB:q < 1000000000) (hq:q * Y2≤X3):q≤Q+1:=by
  have h1:p * (q * Y2)≤p * X3:=Int.mul_le_mul_of_nonneg_left hq (by omega)
  have h2:q * yl≤q * p:=Int.mul_le_mul_of_nonneg_left (by omega) hq0
  have h3:p * q≤p * 1000000000:=Int.mul_le_mul_of_nonneg_left (by omega) (by omega)
  have h4:p * 1000000000≤p * Y2:=Int.mul_le_mul_of_nonneg_left (by omega) (by omega)
  have h5:q * Y=q * yl+p * (q * Y2):=by rw[hY]; grind
  have h6:p * q=q * p:=Int.mul_comm _ _
  have h7:q * Y≤X+Y:=by omega
  have h8 : (q - 1) * Y ≤ X := by have:(q - 1) * Y=q * Y - Y:=by grind
                                  omega
  have h9:q - 1≤X / Y:=(Int.le_ediv_iff_mul_le hY0).2 h8
  omega
theorem zwR {p X Y X3 Y2 xl yl Q:Int} (hp:0 < p) (hX:X=xl+p * X3) (hxl:0≤xl∧xl < p) (hY:Y=yl+p * Y2) (hyl:0≤yl) (hQ0:0≤Q) (hQ:Q * Y≤X):Q * Y2≤X3:=by
 have h1:0≤Q * yl:=Int.mul_nonneg hQ0 hyl
 have h2:Q * Y=Q * yl+p * (Q * Y2):=by rw[hY]; grind
 have h3:p * (Q * Y2) < p * (X3+1):=by
  have:p * (X3+1)=p * X3+p:=by grind
  omega
 have:=Int.lt_of_mul_lt_mul_left h3 (by omega)
 omega
end Go.Di
namespace Go.Di
theorem zd7 (x:List Int) {k:Nat} (h:k≤x.length):nv x=nv (x.take k)+bp k * nv (x.drop k):=by
 have:=zlW (x.take k) (x.drop k)
 rw[List.take_append_drop,List.length_take,Nat.min_eq_left h] at this
 exact this
theorem zre {x x':List Int} {k:Nat} (h:∀ p,p < k→x'[p]? = x[p]?):x'.take k=x.take k:=by
 apply List.ext_getElem?
 intro p
 by_cases hp:p < k
 ·rw[List.getElem?_take_of_lt hp,List.getElem?_take_of_lt hp,h p hp]
 ·rw[List.getElem?_eq_none (by simp; omega),List.getElem?_eq_none (by simp; omega)]
theorem zqm {x:List Int} (h:∀ p,p < x.length→x[p]? = some 0):nv x=0:=by
 have:x=List.replicate x.length 0:=by
  apply List.ext_getElem?
  intro p
  by_cases hp:p < x.length
  ·rw[h p hp]; simp[hp]
  ·rw[List.getElem?_eq_none (by omega),List.getElem?_eq_none (by simp; omega)]
 rw[this,zlV]
end Go.Di
namespace Go.Di
theorem zCJ {x:List Int} {k n:Nat} (hx:Dig x) (hn:2≤n) (hkn:k+n < x.length) (hz:∀ p,k+n < p→p < x.length→x[p]? = some 0) :
    ∃ xl,0≤xl∧xl < bp (n - 2)∧nv (x.drop k)=xl+bp (n - 2) * ((x[k+n] * 1000000000+x[k+n - 1]) * 1000000000+x[k+n - 2]):=by
  refine ⟨nv ((x.drop k).take (n - 2)),?_,?_,?_⟩
  · exact zbc ((hx.drop k).take _)
  · exact (zmr (hx.drop k) (by rw[List.length_drop]; omega)).2
  · rw [zd7 (x.drop k) (k:=n - 2) (by rw[List.length_drop]; omega),List.drop_drop,show k+(n - 2)=k+n - 2 by omega]
    rw[zd6 (show k+n - 2 < x.length by omega),show k+n - 2+1=k+n - 1 by omega,zd6 (show k+n - 1 < x.length by omega),show k+n - 1+1=k+n by omega,zd6 hkn]
    have h0:nv (x.drop (k+n+1))=0:=zqm fun p hp=>by
      rw[List.length_drop] at hp
      rw[List.getElem?_drop]; exact hz _ (by omega) (by omega)
    rw[h0]
    generalize x[k+n]=a
    generalize x[k+n - 1]=b
    generalize x[k+n - 2]=c
    grind
theorem zMB {y:List Int} (hy:Dig y) (hn:2≤y.length) :
  ∃ yl,0≤yl∧yl < bp (y.length - 2)∧nv y=yl+bp (y.length - 2) * (y[y.length - 1] * 1000000000+y[y.length - 2]):=by
 refine ⟨nv (y.take (y.length - 2)),zbc (hy.take _),(zmr hy (by omega)).2,?_⟩
 rw[zd7 y (k:=y.length - 2) (by omega),zd6 (show y.length - 2 < y.length by omega),show y.length - 2+1=y.length - 1 by omega,zd6 (show y.length - 1 < y.length by omega),List.drop_of_length_le (by omega)]
 have h:=hy
 simp only[nv]
 have e:nv (y.take (y.length - 2))=nv (y.take (y.length - 2)):=rfl
 generalize y[y.length - 1]=a
 generalize y[y.length - 2]=b
 grind
end Go.Di
namespace Go.Di
structure RoundI (y:List Int) (L:Nat) (V:Int) (k:Nat) (x out:List Int):Prop where
 xlen:x.length=L
 olen:out.length+y.length=L
 xd:Dig x
 od:Dig out
 zero:∀ p,k+y.length≤p→p < L→x[p]? = some 0
 lt:nv (x.drop k) < nv y
 val:V=nv x+bp k * (nv y * nv (out.drop k))
theorem RoundI.mk' {y x x' out:List Int} {L k:Nat} {V q:Int} (h:RoundI y L V (k+1) x out) (hk:k < out.length) (hlen:x'.length=L) (hd:Dig x') (hlow:∀ p,p < k→x'[p]? = x[p]?) (hz:∀ p,k+y.length≤p→p < L→x'[p]? = some 0)
  (hq:0≤q∧q < 1000000000) (hw:nv (x'.drop k)=nv (x.drop k) - q * nv y) (hlt:nv (x'.drop k) < nv y):RoundI y L V k x' (out.set k q):=by
 refine ⟨hlen,by simp[h.olen],hd,h.od.set k hq,hz,hlt,?_⟩
 have hkx:k≤x.length:=by rw[h.xlen]; have:=h.olen; omega
 have e1:=zd7 x hkx
 have e2:=zd7 x' (k:=k) (by rw[hlen]; have:=h.olen; omega)
 rw[zre hlow] at e2
 have e3:=zd6 (a:=out.set k q) (i:=k) (by simp; exact hk)
 have e4:(out.set k q).drop (k+1)=out.drop (k+1):=by rw[List.drop_set_of_lt (by omega)]
 have e5:(out.set k q)[k]'(by simp; exact hk)=q:=by simp
 rw[e4,e5] at e3
 have hv:=h.val
 rw[e3,e2,hw]
 rw[e1,zfs] at hv
 rw[hv]
 generalize nv (x.take k)=a
 generalize nv (x.drop k)=b
 generalize nv (out.drop (k+1))=o
 generalize nv y=z
 generalize bp k=p
 grind
end Go.Di
namespace Go.Di
theorem zOn {n:Nat} (h:1≤n) {y:List Int} (hy:Dig y) (hl:y.length=n) {t:Int} (ht:y[n - 1]? = some t) (h5:1≤t):bp (n - 1)≤nv y:=by
 have hlt:n - 1 < y.length:=by omega
 have e:=zd7 y (k:=n - 1) (by omega)
 rw[zd6 hlt,show n - 1+1=n by omega,List.drop_of_length_le (by omega)] at e
 rw[List.getElem?_eq_getElem hlt] at ht
 have ht:y[n - 1]=t:=by simpa using ht
 rw[ht] at e
 have h0:=zbc (hy.take (n - 1))
 have hp:=zgq (n - 1)
 have:bp (n - 1) * 1≤bp (n - 1) * t:=Int.mul_le_mul_of_nonneg_left h5 (by omega)
 simp only[nv,Int.mul_zero,Int.add_zero] at e
 omega
end Go.Di
namespace Go.Di
theorem after_take {y x x':List Int} {k:Nat} {q br:Int} (hI:TakeI y x k q y.length br x') (hk:k+y.length < x.length) :
  nv ((x'.set (k+y.length) (x[k+y.length] - br)).drop k)=nv (x.drop k) - q * nv y:=by
 have hlx:k+y.length < x'.length:=by rw[hI.len]; exact hk
 have hv:=hI.val
 rw[List.take_length] at hv
 have hs:=zoI (d:=x[k+y.length] - br) hlx
 have he:x'[k+y.length]=x[k+y.length]:=by
  have:=hI.rest (k+y.length) (Nat.le_refl _)
  rw[List.getElem?_eq_getElem hlx,List.getElem?_eq_getElem hk] at this
  simpa using this
 rw[he] at hs
 have e1:=zd7 x (k:=k) (by omega)
 have e2:=zd7 (x'.set (k+y.length) (x[k+y.length] - br)) (k:=k) (by simp; omega)
 have e3:(x'.set (k+y.length) (x[k+y.length] - br)).take k=x.take k:=zre fun p hp=>by
  rw[List.getElem?_set_ne (by omega)]; exact hI.low p hp
 rw[e3,hs] at e2
 have hp:=zgq k
 have key:bp k * nv ((x'.set (k+y.length) (x[k+y.length] - br)).drop k)=bp k * (nv (x.drop k) - q * nv y):=by
  generalize nv ((x'.set (k+y.length) (x[k+y.length] - br)).drop k)=A at *
  generalize nv (x.drop k)=X at *
  generalize x[k+y.length]=e at *
  generalize bp (k+y.length)=P at *
  generalize bp k=p at *
  generalize nv (x.take k)=u at *
  generalize nv y=z at *
  grind
 exact Int.eq_of_mul_eq_mul_left (by omega) key
end Go.Di
namespace Go.Di
theorem zMz {x:List Int} {k n:Nat} (hkn:k+n < x.length) (hz:∀ p,k+n < p→p < x.length→x[p]? = some 0):nv (x.drop k)=nv ((x.drop k).take n)+bp n * x[k+n]:=by
 rw[zd7 (x.drop k) (k:=n) (by rw[List.length_drop]; omega),List.drop_drop,zd6 hkn]
 have h0:nv (x.drop (k+n+1))=0:=zqm fun p hp=>by
  rw[List.length_drop] at hp
  rw[List.getElem?_drop]; exact hz _ (by omega) (by omega)
 rw[h0]; simp
theorem zHw {W b e D Y:Int} (hW:0≤W∧W < b) (hD:D=W+b * e) (hY:0 < Y∧Y < b):(0≤D→D < Y→e=0)∧(D < 0 → -Y≤D→e = -1):=by
  constructor
  · intro h1 h2
    rcases Int.lt_or_le e 0 with h | h
    · have:b * e≤b * (-1):=Int.mul_le_mul_of_nonneg_left (by omega) (by omega)
      omega
    · rcases Int.lt_or_le 0 e with h' | h'
      · have:b * 1≤b * e:=Int.mul_le_mul_of_nonneg_left (by omega) (by omega)
        omega
      · omega
  · intro h1 h2
    rcases Int.lt_or_le e (-1) with h | h
    · have:b * e≤b * (-2):=Int.mul_le_mul_of_nonneg_left (by omega) (by omega)
      omega
    · rcases Int.lt_or_le (-1) e with h' | h'
      · have:0≤b * e:=Int.mul_nonneg (by omega) (by omega)
        omega
      · omega
end Go.Di
namespace Go.Di
theorem zhb {x:List Int} {i:Nat} (h:i < x.length):x[i]? = some x[i]:=List.getElem?_eq_getElem h
theorem Dig.zPb {x:List Int} {i:Nat} {d:Int} (h:∀ p,p≠i→∀ e,x[p]? = some e→0≤e∧e < 1000000000) (hd:0≤d∧d < 1000000000):Dig (x.set i d):=fun e he=>by
 obtain ⟨p,hp,rfl⟩:=List.getElem_of_mem he
 rw[List.length_set] at hp
 by_cases hpi:p=i
 ·subst hpi; simpa using hd
 ·have:=h p hpi x[p] (zhb hp)
  rw[List.getElem_set_ne (by omega)]; exact this
theorem zQd {x:List Int} {k n:Nat} (hlow:∀ p,p < k+n→∀ e,x[p]? = some e→0≤e∧e < 1000000000):Dig ((x.drop k).take n):=fun e he=>by
 obtain ⟨p,hp,rfl⟩:=List.getElem_of_mem he
 rw[List.length_take,List.length_drop] at hp
 have h1:k+p < x.length:=by omega
 have:=hlow (k+p) (by omega) x[k+p] (zhb h1)
 simpa using this
theorem zxr {y x:List Int} {k:Nat} (hy:Dig y) (hkn:k+y.length < x.length) (hlow:∀ p,p < k+y.length→∀ e,x[p]? = some e→0≤e∧e < 1000000000)
  (hz:∀ p,k+y.length < p→p < x.length→x[p]? = some 0) (hY:0 < nv y) :
  (0≤nv (x.drop k)→nv (x.drop k) < nv y→x[k+y.length]=0)∧(nv (x.drop k) < 0 → -nv y≤nv (x.drop k)→x[k+y.length] = -1):=by
 have hW:=zQd hlow
 have h1:=zbc hW
 have h2:=zrt hW
 have hl:((x.drop k).take y.length).length=y.length:=by rw[List.length_take,List.length_drop]; omega
 rw[hl] at h2
 exact zHw (W:=nv ((x.drop k).take y.length)) (b:=bp y.length) ⟨h1,h2⟩ (zMz hkn hz) ⟨hY,zrt hy⟩
theorem zAA {y x out:List Int} {k L:Nat} {f V top:Int} (hy:Dig y) (hn:2≤y.length) (htop:y[y.length - 1]? = some top) (ht:1≤top) (h:RoundI y L V (k+1) x out) (hk:k < out.length) (hL:L≤1000000000) :
    ∃ x' out',zcO (f,(y.length:Int),top,(k:Int),x,y,out,())=some (.inl (f,(y.length:Int),top,(k:Int) - 1,x',y,out',()))∧RoundI y L V k x' out':=by
  have hxl:=h.xlen
  have hol:=h.olen
  have hkn:k+y.length < x.length:=by omega
  have hx:=h.xd
  have hz:∀ p,k+y.length < p→p < x.length→x[p]? = some 0:=fun p h1 h2=>h.zero p (by omega) (by omega)
  have htl:top < 1000000000:=by
    have:=hy.at (show y.length - 1 < y.length by omega)
    rw[zhb (show y.length - 1 < y.length by omega)] at htop
    simp only[Option.some.injEq] at htop
    omega
  have htop':y[y.length - 1]=top:=by
    rw[zhb (show y.length - 1 < y.length by omega)] at htop
    simpa using htop
  have hb:=zOn (n:=y.length) (by omega) hy rfl htop ht
  have hYp:0 < nv y:=by have:=zgq (y.length - 1); omega
  -- the limbs
  have hxn:=hx.at hkn
  have hx1:=hx.at (show k+y.length - 1 < x.length by omega)
  have hx2:=hx.at (show k+y.length - 2 < x.length by omega)
  have hy2:=hy.at (show y.length - 2 < y.length by omega)
  obtain ⟨xl,xl0,xl1,hX⟩:=zCJ hx hn hkn hz
  obtain ⟨yl,yl0,yl1,hY⟩:=zMB hy hn
  rw[htop'] at hY
  have hXB:nv (x.drop k) < 1000000000 * nv y:=by
    rw[zd6 (show k < x.length by omega)]
    have h1:=hx.at (show k < x.length by omega)
    have h2:=h.lt
    omega
  have hX0:=zbc (hx.drop k)
  have hQ0:0≤nv (x.drop k) / nv y:=Int.ediv_nonneg hX0 (by omega)
  have hQB:nv (x.drop k) / nv y < 1000000000:=Int.ediv_lt_of_lt_mul hYp hXB
  have hQX:nv (x.drop k) / nv y * nv y≤nv (x.drop k):=Int.ediv_mul_le _ (by omega)
  have hQX2:nv (x.drop k) < (nv (x.drop k) / nv y+1) * nv y:=Int.lt_ediv_add_one_mul_self _ hYp
  generalize hQ:nv (x.drop k) / nv y=Q at *
  have hp:=zgq (y.length - 2)
  have hgb:=zwR hp hX ⟨xl0,xl1⟩ hY yl0 hQ0 hQX
  -- the top of the window is at most the top of the divisor
  have hbn:x[k+y.length]≤top:=by
    have h1:nv (x.drop (k+1))=nv ((x.drop (k+1)).take (y.length - 1))+bp (y.length - 1) * nv (x.drop (k+y.length)):=by
      rw[zd7 (x.drop (k+1)) (k:=y.length - 1) (by rw[List.length_drop]; omega),List.drop_drop,show k+1+(y.length - 1)=k+y.length by omega]
    rw[zd6 hkn] at h1
    have h2:=zbc ((hx.drop (k+1)).take (y.length - 1))
    have h3:=zbc (hx.drop (k+y.length+1))
    have h4:=h.lt
    have h5:=zd7 y (k:=y.length - 1) (by omega)
    rw[zd6 (show y.length - 1 < y.length by omega),htop',List.drop_of_length_le (show y.length≤y.length - 1+1 by omega)] at h5
    have h6:=(zmr hy (show y.length - 1≤y.length by omega)).2
    simp only[nv,Int.mul_zero,Int.add_zero] at h5
    have hp1:=zgq (y.length - 1)
    rcases Int.lt_or_le top x[k+y.length] with h7 | h7
    · exfalso
      have h8:bp (y.length - 1) * (top+1)≤bp (y.length - 1) * (x[k+y.length]+1000000000 * nv (x.drop (k+y.length+1))):=Int.mul_le_mul_of_nonneg_left (by omega) (by omega)
      have h9:bp (y.length - 1) * (top+1)=bp (y.length - 1) * top+bp (y.length - 1):=by grind
      omega
    · exact h7
  -- the first try
  have hqr:=Int.mul_ediv_add_emod (x[k+y.length] * 1000000000+x[k+y.length - 1]) top
  have hr0:=Int.emod_nonneg (x[k+y.length] * 1000000000+x[k+y.length - 1]) (show top≠0 by omega)
  have hr1:=Int.emod_lt_of_pos (x[k+y.length] * 1000000000+x[k+y.length - 1]) (show 0 < top by omega)
  have hQq:Q≤(x[k+y.length] * 1000000000+x[k+y.length - 1]) / top:=by
    refine (Int.le_ediv_iff_mul_le (by omega)).2 ?_
    have h1:0≤Q * y[y.length - 2]:=Int.mul_nonneg hQ0 hy2.1
    have h2:Q * (top * 1000000000+y[y.length - 2])=(Q * top) * 1000000000+Q * y[y.length - 2]:=by grind
    rw[h2] at hgb
    generalize Q * top=A at *
    omega
  obtain ⟨q',hq1,hq2,hq3,hq4⟩:=guess_loop (x:=x) (y:=y) (out:=out) (k:=k) (n:=y.length) (f:=f) (top:=top) (q:=(x[k+y.length] * 1000000000+x[k+y.length - 1]) / top) (r:=(x[k+y.length] * 1000000000+x[k+y.length - 1]) % top) (Q:=Q)
    hn (by omega) hkn rfl (zhb (show k+y.length - 2 < x.length by omega)) (zhb (show y.length - 2 < y.length by omega)) hx2 hy2 ⟨hxn.1,hbn⟩ hx1 ⟨ht,htl⟩ ⟨hQ0,hQB⟩ hgb (by rw[Int.mul_comm]; exact hqr) ⟨hr0,by omega⟩ hQq
  have hq5:=guess_near (q:=q') (top:=top) hp hX ⟨xl0,xl1⟩ hY ⟨yl0,yl1⟩ hYp (by omega) ht hQ.symm (by omega) hq3 hq4
  obtain ⟨br,x',ht1,hT⟩:=zCK (y:=y) (x0:=x) (out:=out) (k:=k) (f:=f) (top:=top) (q:=q') hy hx ⟨by omega,hq3⟩ hkn (by omega)
  have hbr:=hT.b0
  have hlx:k+y.length < x'.length:=by rw[hT.len]; exact hkn
  have hxe:x'[k+y.length]=x[k+y.length]:=by
    have:=hT.rest (k+y.length) (Nat.le_refl _)
    rw[zhb hlx,zhb hkn] at this
    simpa using this
  have hD:=after_take hT hkn
  have e1:IntKind.i64.wrap ((k:Int)+(y.length:Int))=((k+y.length:Nat):Int):=by rw[wrap_i64 (by omega) (by omega)]; omega
  have e2:IntKind.i64.wrap (((k+y.length:Nat):Int) - 1)=((k+y.length - 1:Nat):Int):=by rw[wrap_i64 (by omega) (by omega)]; omega
  have e3:IntKind.i64.wrap ((k:Int) - 1)=(k:Int) - 1:=wrap_i64 (by omega) (by omega)
  have e4:IntKind.i64.wrap (x[k+y.length] - br)=x[k+y.length] - br:=wrap_i64 (by omega) (by omega)
  have e5:IntKind.i64.wrap (q' - 1)=q' - 1:=wrap_i64 (by omega) (by omega)
  have etop:zah (top != 0)=some ():=by
    have:(top != 0)=true:=by simp; omega
    rw[this]; rfl
  have ediv:IntKind.i64.wrap ((IntKind.i64.wrap ((IntKind.i64.wrap (x[k+y.length] * 1000000000))+x[k+y.length - 1])).tdiv top)=(x[k+y.length] * 1000000000+x[k+y.length - 1]) / top:=by
    rw[wrap_i64 (n:=x[k+y.length] * 1000000000) (by omega) (by omega),wrap_i64 (n:=x[k+y.length] * 1000000000+x[k+y.length - 1]) (by omega) (by omega),Int.tdiv_eq_ediv_of_nonneg (by omega)]
    have h1:0≤(x[k+y.length] * 1000000000+x[k+y.length - 1]) / top:=Int.ediv_nonneg (by omega) (by omega)
    have h2:(x[k+y.length] * 1000000000+x[k+y.length - 1]) / top≤x[k+y.length] * 1000000000+x[k+y.length - 1]:=Int.ediv_le_self _ (by omega)
    exact wrap_i64 (by omega) (by omega)
  have emod:(IntKind.i64.wrap ((IntKind.i64.wrap (x[k+y.length] * 1000000000))+x[k+y.length - 1])).tmod top=(x[k+y.length] * 1000000000+x[k+y.length - 1]) % top:=by
    rw[wrap_i64 (n:=x[k+y.length] * 1000000000) (by omega) (by omega),wrap_i64 (n:=x[k+y.length] * 1000000000+x[k+y.length - 1]) (by omega) (by omega),Int.tmod_eq_emod_of_nonneg (by omega)]
  have hset:∀ d:Int,(x'.set (k+y.length) d)[k+y.length]? = some d:=fun d=>by simp[hlx]
  have hsl:k+y.length < (x'.set (k+y.length) (x[k+y.length] - br)).length:=by simpa using hlx
  have hslow:∀ p,p < k+y.length→∀ e,(x'.set (k+y.length) (x[k+y.length] - br))[p]? = some e→0≤e∧e < 1000000000:=fun p hp e he=>by
    rw[List.getElem?_set_ne (by omega)] at he
    exact hT.dig e (List.mem_of_getElem? he)
  have hsz:∀ p,k+y.length < p→p < (x'.set (k+y.length) (x[k+y.length] - br)).length→(x'.set (k+y.length) (x[k+y.length] - br))[p]? = some 0:=fun p h1 h2=>by
    rw[List.getElem?_set_ne (by omega),hT.rest p (by omega)]
    rw[List.length_set,hT.len] at h2
    exact hz p h1 h2
  have hsg:=zxr hy hsl hslow hsz hYp
  have hse:(x'.set (k+y.length) (x[k+y.length] - br))[k+y.length]'hsl=x[k+y.length] - br:=by simp
  rw[hse,hD] at hsg
  simp only[zcO,show decide ((k:Int) ≥ 0)=true by simp,cond_true,e1,e2,zaT hkn,zhb hkn,Int.toNat_natCast,zaT (show k+y.length - 1 < x.length by omega),zhb (show k+y.length - 1 < x.length by omega),Option.bind_some,etop,ediv,emod,hq1,ht1,zaT hlx,zhb hlx,hxe,e4,zf0 (hset _),hset,e3,zaT hk,e5]
  by_cases hneg:x[k+y.length] - br < 0
  · -- one too many
    rw[decide_eq_true hneg,cond_true]
    have hDneg:nv (x.drop k) - q' * nv y < 0:=by
      rcases Int.lt_or_le (nv (x.drop k) - q' * nv y) 0 with h1 | h1
      · exact h1
      · exfalso
        have h2:(q':Int) * nv y≤nv (x.drop k):=by omega
        have h3:Q * nv y≤q' * nv y:=Int.mul_le_mul_of_nonneg_right hq2 (by omega)
        have h4:(Q+1) * nv y=Q * nv y+nv y:=by grind
        have:=hsg.1 h1 (by omega)
        omega
    have hq6:q'=Q+1:=by
      rcases Int.lt_or_le Q q' with h1 | h1
      · omega
      · exfalso
        have:q'=Q:=by omega
        subst this
        omega
    obtain ⟨c,x3,hb1,hB⟩:=zG6 (y:=y) (x0:=x'.set (k+y.length) (x[k+y.length] - br)) (out:=out) (k:=k) (f:=f) (top:=top) (q:=q' - 1) hy hslow hsl (by rw[List.length_set,hT.len]; omega)
    have hl3:k+y.length < x3.length:=by rw[hB.len]; exact hsl
    have hc:=hB.c0
    have h3e:x3[k+y.length]=x[k+y.length] - br:=by
      have:=hB.rest (k+y.length) (Nat.le_refl _)
      rw[zhb hl3,hset] at this
      simpa using this
    have e6:IntKind.i64.wrap (x[k+y.length] - br+c)=x[k+y.length] - br+c:=wrap_i64 (by omega) (by omega)
    simp only[hb1,Option.bind_some,e1,zaT hl3,zhb hl3,Int.toNat_natCast,h3e,e6,zaT hk,e3]
    have hm1:=hsg.2 hDneg (by
      have h4:q' * nv y=Q * nv y+nv y:=by rw[hq6]; grind
      omega)
    -- the value behind
    have hv4:nv ((x3.set (k+y.length) (x[k+y.length] - br+c)).drop k)=nv (x.drop k) - Q * nv y:=by
      have hv:=hB.val
      rw[List.take_length] at hv
      have hs:=zoI (d:=x[k+y.length] - br+c) hl3
      rw[h3e] at hs
      have s1:=zd7 (x'.set (k+y.length) (x[k+y.length] - br)) (k:=k) (by omega)
      have s2:=zd7 (x3.set (k+y.length) (x[k+y.length] - br+c)) (k:=k) (by simp; omega)
      have s3:(x3.set (k+y.length) (x[k+y.length] - br+c)).take k=(x'.set (k+y.length) (x[k+y.length] - br)).take k:=zre fun p hp=>by
        rw[List.getElem?_set_ne (by omega)]; exact hB.low p hp
      rw[s3,hs] at s2
      rw[hD] at s1
      have h4:q' * nv y=Q * nv y+nv y:=by rw[hq6]; grind
      refine Int.eq_of_mul_eq_mul_left (show bp k≠0 by have:=zgq k; omega) ?_
      rw[h4] at s1
      generalize nv ((x3.set (k+y.length) (x[k+y.length] - br+c)).drop k)=A at *
      generalize nv (x.drop k)=X at *
      generalize nv y=Y at *
      generalize Q * Y=QY at *
      generalize bp (k+y.length)=P at *
      generalize bp k=p at *
      generalize x[k+y.length] - br=e at *
      grind
    have hl4:k+y.length < (x3.set (k+y.length) (x[k+y.length] - br+c)).length:=by simpa using hl3
    have h4low:∀ p,p < k+y.length→∀ e,(x3.set (k+y.length) (x[k+y.length] - br+c))[p]? = some e→0≤e∧e < 1000000000:=fun p hp e he=>by
      rw[List.getElem?_set_ne (by omega)] at he
      exact hB.dig p hp e he
    have h4z:∀ p,k+y.length < p→p < (x3.set (k+y.length) (x[k+y.length] - br+c)).length→(x3.set (k+y.length) (x[k+y.length] - br+c))[p]? = some 0:=fun p h1 h2=>by
      rw[List.getElem?_set_ne (by omega),hB.rest p (by omega)]
      rw[List.length_set,hB.len] at h2
      exact hsz p h1 h2
    have hsg4:=zxr hy hl4 h4low h4z hYp
    have h5:(Q+1) * nv y=Q * nv y+nv y:=by grind
    have hzero:=hsg4.1 (by rw[hv4]; omega) (by rw[hv4]; omega)
    have hse4:(x3.set (k+y.length) (x[k+y.length] - br+c))[k+y.length]'hl4=x[k+y.length] - br+c:=by simp
    rw[hse4] at hzero
    refine ⟨_,_,rfl,?_⟩
    have hqQ:q' - 1=Q:=by omega
    rw[hqQ]
    refine h.mk' hk (by simp[hB.len,hT.len,hxl]) ?_ (fun p hp=>?_) (fun p hp1 hp2=>?_) ⟨hQ0,hQB⟩ hv4 (by rw[hv4]; omega)
    · rw [hzero]
      refine Dig.zPb (fun p hpne e he=>?_) (by omega)
      rcases Nat.lt_or_ge p (k+y.length) with h6 | h6
      · exact hB.dig p h6 e he
      · have hpl:p < x3.length:=(List.getElem?_eq_some_iff.1 he).1
        have:=h4z p (by omega) (by simpa using hpl)
        rw[List.getElem?_set_ne (by omega)] at this
        rw[this] at he; simp only[Option.some.injEq] at he; omega
    · rw[List.getElem?_set_ne (by omega),hB.low p hp,List.getElem?_set_ne (by omega),hT.low p hp]
    · by_cases hpe:p=k+y.length
      · subst hpe
        rw[List.getElem?_eq_getElem hl4,hse4,hzero]
      · exact h4z p (by omega) (by simp[hB.len,hT.len]; omega)
  · rw [decide_eq_false hneg,cond_false]
    have hDpos:0≤nv (x.drop k) - q' * nv y:=by
      rcases Int.lt_or_le (nv (x.drop k) - q' * nv y) 0 with h1 | h1
      · exfalso
        have h2:q' * nv y≤(Q+1) * nv y:=Int.mul_le_mul_of_nonneg_right (by omega) (by omega)
        have h4:(Q+1) * nv y=Q * nv y+nv y:=by grind
        have:=hsg.2 h1 (by omega)
        omega
      · exact h1
    have hqQ:q'=Q:=by
      rcases Int.lt_or_le Q q' with h1 | h1
      · exfalso
        have h2:(Q+1) * nv y≤q' * nv y:=Int.mul_le_mul_of_nonneg_right h1 (by omega)
        omega
      · omega
    subst hqQ
    have h5:(q'+1) * nv y=q' * nv y+nv y:=by grind
    have hzero:=hsg.1 hDpos (by omega)
    refine ⟨_,_,rfl,?_⟩
    refine h.mk' hk (by simp[hT.len,hxl]) ?_ (fun p hp=>?_) (fun p hp1 hp2=>?_) ⟨hQ0,hQB⟩ hD (by rw[hD]; omega)
    · rw[hzero]
      exact hT.dig.set _ (by omega)
    · rw[List.getElem?_set_ne (by omega),hT.low p hp]
    · by_cases hpe:p=k+y.length
      · subst hpe
        rw[hset,hzero]
      · exact hsz p (by omega) (by simp[hT.len]; omega)
end Go.Di
namespace Go.Di
theorem zha {a:List Int} (h:a.length≤1073741824):za3 a=some a:=by
 unfold za3
 rw[room h]; rfl
theorem zHN {a x y:List Int} {f n:Int} (hx:x.length≤a.length+1) (ha:a.length≤1073741000) :
  zhq a f n x y=some (f,n,x++List.replicate (a.length+1 - x.length) 0,y,()):=by
 unfold zhq
 have key:=ze4 zds (fun i=>(a,f,n,x++List.replicate i 0,y,())) (a.length+1 - x.length) (f,n,x++List.replicate (a.length+1 - x.length) 0,y,()) (fun i hi=>by
  have h1:decide (((x++List.replicate i (0:Int)).length:Int)≤(a.length:Int))=true:=by simp; omega
  simp only[zds,h1,cond_true,room (show (x++List.replicate i (0:Int)).length+1≤1073741824 by simp; omega),Option.bind_some]
  rw[List.append_assoc,← List.replicate_succ']) (by
  have h1:decide (((x++List.replicate (a.length+1 - x.length) (0:Int)).length:Int)≤(a.length:Int))=false:=by simp; omega
  simp only[zds,h1,cond_false])
 simpa using key
theorem zPi (x:List Int) (n:Nat):nv (x++List.replicate n 0)=nv x:=by rw[zlW,zlV]; omega
theorem zAB {y x0:List Int} {L:Nat} {f V top:Int} (hy:Dig y) (hn:2≤y.length) (htop:y[y.length - 1]? = some top) (ht:1≤top) (hL:L≤1000000000) (N:Nat) (hN:N+y.length=L) (h:RoundI y L V N x0 (List.replicate N 0)) :
    ∃ x out,zhp f (y.length:Int) top ((N:Int) - 1) x0 y (List.replicate N 0)=some (f,x,out,())∧RoundI y L V 0 x out:=by
  unfold zhp
  obtain ⟨r,h1,x,out,rfl,h2⟩:=zcz (S:=zcO) (fun i z=>∃ x out,z=(f,(y.length:Int),top,((N - i:Nat):Int) - 1,x,y,out,())∧RoundI y L V (N - i) x out) N (fun r=>∃ x out,r=(f,x,out,())∧RoundI y L V 0 x out)
    (fun i hi z hz=>by
      obtain ⟨x,out,rfl,hI⟩:=hz
      left
      have e:((N - i:Nat):Int) - 1=((N - (i+1):Nat):Int):=by omega
      have e2:N - i=(N - (i+1))+1:=by omega
      rw[e2] at hI
      obtain ⟨x',out',q1,q2⟩:=zAA (f:=f) hy hn htop ht hI (by have:=hI.olen; omega) hL
      rw[e]
      exact ⟨_,q1,x',out',rfl,q2⟩)
    (fun z hz=>by
      obtain ⟨x,out,rfl,hI⟩:=hz
      rw[Nat.sub_self] at *
      exact ⟨_,by simp[zcO],x,out,rfl,hI⟩)
    (x:=(f,(y.length:Int),top,(N:Int) - 1,x0,y,List.replicate N 0,())) ⟨x0,List.replicate N 0,by simp,by simpa using h⟩
  exact ⟨x,out,h1,h2⟩
theorem zqL {n:Nat} (h0:0 < n) (h:n < 1000000000):dg n=[(n:Int)]:=by
 rw[zqK (by omega),Nat.mod_eq_of_lt h,Nat.div_eq_of_lt h,zaE]
theorem zxQ {n:Nat} (h:(dg n).length=1):0 < n∧n < 1000000000∧dg n=[(n:Int)]:=by
 have h0:n≠0:=by rintro rfl; rw[zaE] at h; simp at h
 have hlt:(n:Int) < bp 1:=zgn.1 (by omega)
 have hb:bp 1=1000000000:=by decide
 rw[hb] at hlt
 exact ⟨by omega,by omega,zqL (by omega) (by omega)⟩
theorem impl_div {m n:Nat} (hm:(dg m).length≤100000000) (hn:(dg n).length≤100000000) (h0:0 < n):zba (dg m) (dg n)=some (dg (m / n),dg (m % n)):=by
  unfold zba
  have hcmp:=zrG (zb7 m) (zb7 n) (by omega)
  rw[zcA,zcA] at hcmp
  rw[hcmp,Option.bind_some,zGv]
  by_cases hlt:m < n
  · have hd:decide ((m:Int) < (n:Int))=true:=by simpa using hlt
    rw[hd,cond_true,zha (by omega),Option.bind_some,Nat.div_eq_of_lt hlt,Nat.mod_eq_of_lt hlt,zaE]
  · have hd : decide ((m:Int) < (n:Int))=false:=by simpa using hlt
    rw[hd,cond_false]
    by_cases h1:(dg n).length=1
    · have hb:(((dg n).length:Int)==1)=true:=by rw[h1]; rfl
      obtain ⟨_,hsm,e⟩:=zxQ h1
      rw[hb,cond_true,e,show ((0:Int)=((0:Nat):Int)) from rfl,zf0 (x:=(n:Int)) (by rfl),Option.bind_some,zqB (by omega) ⟨h0,hsm⟩,Option.bind_some]
    · have hb : (((dg n).length:Int)==1)=false:=by rw[beq_eq_false_iff_ne]; omega
      have hne:dg n≠[]:=fun e=>by have:=zfq.1 e; omega
      have hl2:2≤(dg n).length:=by have:=List.length_pos_iff.2 hne; omega
      have hlast:=zka hne (by omega)
      -- the top limb of the divisor
      have hbl:(dg n).getLast hne=(dg n)[(dg n).length - 1]'(by omega):=List.getLast_eq_getElem ..
      have hbd:=(zfh n).at (show (dg n).length - 1 < (dg n).length by omega)
      have hb0:(dg n)[(dg n).length - 1]'(by omega)≠0:=by
        rw[← hbl]
        intro e
        have:=(zb7 n).2
        rw[zpH,List.getLast?_eq_some_getLast hne,e] at this
        exact this rfl
      have hnlow:=(zb7 n).low hne
      have hns:=zd7 (dg n) (k:=(dg n).length - 1) (by omega)
      rw[zd6 (show (dg n).length - 1 < (dg n).length by omega),List.drop_of_length_le (show (dg n).length≤(dg n).length - 1+1 by omega)] at hns
      have hnt:=(zmr (zfh n) (show (dg n).length - 1≤(dg n).length by omega)).2
      simp only[nv,Int.mul_zero,Int.add_zero] at hns
      rw[zcA] at hnlow hns
      rw[hb,cond_false,hlast,Option.bind_some,hbl]
      generalize hbt:(dg n)[(dg n).length - 1]'(by omega)=bt at *
      have e1:IntKind.i64.wrap (bt+1)=bt+1:=wrap_i64 (by omega) (by omega)
      have hg:zah (bt+1 != 0)=some ():=by
        have:(bt+1 != 0)=true:=by simp; omega
        rw[this]; rfl
      have ef:IntKind.i64.wrap ((1000000000:Int).tdiv (bt+1))=1000000000 / (bt+1):=by
        rw[Int.tdiv_eq_ediv_of_nonneg (by omega)]
        have h1:0≤1000000000 / (bt+1):=Int.ediv_nonneg (by omega) (by omega)
        have h2:1000000000 / (bt+1)≤1000000000:=Int.ediv_le_self _ (by omega)
        exact wrap_i64 (by omega) (by omega)
      have hf1:1≤1000000000 / (bt+1):=(Int.le_ediv_iff_mul_le (by omega)).2 (by omega)
      have hf2:1000000000 / (bt+1) < 1000000000:=Int.ediv_lt_of_lt_mul (by omega) (by omega)
      have hf3:1000000000 / (bt+1) * (bt+1)≤1000000000:=Int.ediv_mul_le _ (by omega)
      rw[e1,hg,Option.bind_some,ef]
      generalize hF:1000000000 / (bt+1)=F at *
      obtain ⟨f,rfl⟩:∃ f:Nat,F=(f:Int):=⟨F.toNat,by omega⟩
      rw[← zqL (n:=f) (by omega) (by omega)]
      have hlf:(dg f).length=1:=by rw[zqL (by omega) (by omega)]; rfl
      rw[zkd (by omega) (by omega),Option.bind_some,zkd (by omega) (by omega),Option.bind_some]
      have hp:=zgq ((dg n).length - 1)
      have hbs:bp (dg n).length=1000000000 * bp ((dg n).length - 1):=by
        have:=zfs ((dg n).length - 1)
        rwa [show (dg n).length - 1+1=(dg n).length by omega] at this
      -- the length of the divisor stays
      have hyl:(dg (n * f)).length=(dg n).length:=by
        have h1:(dg n).length≤(dg (n * f)).length:=zaG (Nat.le_mul_of_pos_right n (by omega))
        have h2:(dg (n * f)).length≤(dg n).length:=by
          rw[zgn,hbs]
          have h3:(n:Int) * f≤((bp ((dg n).length - 1)) * (bt+1) - 1) * f:=by
            refine Int.mul_le_mul_of_nonneg_right ?_ (by omega)
            have:bp ((dg n).length - 1) * (bt+1)=bp ((dg n).length - 1) * bt+bp ((dg n).length - 1):=by grind
            omega
          have h4:bp ((dg n).length - 1) * ((f:Int) * (bt+1))≤bp ((dg n).length - 1) * 1000000000:=Int.mul_le_mul_of_nonneg_left hf3 (by omega)
          have h5:((n * f:Nat):Int)=(n:Int) * f:=by simp
          have h6:((bp ((dg n).length - 1)) * (bt+1) - 1) * f=bp ((dg n).length - 1) * ((f:Int) * (bt+1)) - f:=by grind
          rw[h5]
          omega
        omega
      have hxl:(dg (m * f)).length≤(dg m).length+1:=by have:=zj9 m f; omega
      have hxl':=hxl
      have hmn:(dg n).length≤(dg m).length:=zaG (by omega)
      rw[zHN hxl (by omega),Option.bind_some]
      simp only[]
      rw[hyl]
      have hXl:(dg (m * f)++List.replicate ((dg m).length+1 - (dg (m * f)).length) (0:Int)).length=(dg m).length+1:=by simp; omega
      have hXv:nv (dg (m * f)++List.replicate ((dg m).length+1 - (dg (m * f)).length) (0:Int))=((m * f:Nat):Int):=by rw[zPi,zcA]
      have hXd:Dig (dg (m * f)++List.replicate ((dg m).length+1 - (dg (m * f)).length) (0:Int)):=(zfh _).append (Dig.zeros _)
      have hyd:=zfh (n * f)
      have hyv:=zcA (n * f)
      have hyc:=zb7 (n * f)
      generalize dg (m * f)++List.replicate ((dg m).length+1 - (dg (m * f)).length) (0:Int)=x at *
      generalize dg (n * f)=y at *
      have e3:IntKind.i64.wrap ((x.length:Int) - ((dg n).length:Int))=(((dg m).length+1 - (dg n).length:Nat):Int):=by rw[hXl,wrap_i64 (by omega) (by omega)]; omega
      have e4:IntKind.i64.wrap (((dg n).length:Int) - 1)=((y.length - 1:Nat):Int):=by rw[wrap_i64 (by omega) (by omega)]; omega
      have htl:y.length - 1 < y.length:=by omega
      have e5:IntKind.i64.wrap ((((dg m).length+1 - (dg n).length:Nat):Int) - 1)=(((dg m).length+1 - (dg n).length:Nat):Int) - 1:=wrap_i64 (by omega) (by omega)
      rw[e3,ziE (by omega),Option.bind_some,e4,zaT htl,Option.bind_some,Int.toNat_natCast,zhb htl,Option.bind_some,e5,Int.toNat_natCast]
      have hyne:y≠[]:=by intro e; rw[e] at hyl; simp at hyl; omega
      have hyt:1≤y[y.length - 1]:=by
        have h1:=hyd.at htl
        have h2:y[y.length - 1]≠0:=by
          rw[← List.getLast_eq_getElem hyne]
          intro e
          have:=hyc.2
          rw[zpH,List.getLast?_eq_some_getLast hyne,e] at this
          exact this rfl
        omega
      have hI : RoundI y ((dg m).length+1) ((m * f:Nat):Int) ((dg m).length+1 - (dg n).length) x (List.replicate ((dg m).length+1 - (dg n).length) 0):=by
        refine ⟨hXl,by simp[hyl]; omega,hXd,Dig.zeros _,fun p h1 h2=>by omega,?_,?_⟩
        · rw [hyv]
          rcases Int.lt_or_le (nv (x.drop ((dg m).length+1 - (dg n).length))) (((n * f:Nat):Int)) with h | h
          · exact h
          · exfalso
            have s1:=zd7 x (k:=(dg m).length+1 - (dg n).length) (by omega)
            have s2:=zbc (hXd.take ((dg m).length+1 - (dg n).length))
            rw[hXv] at s1
            have hpk:=zgq ((dg m).length+1 - (dg n).length)
            have s3:bp ((dg m).length+1 - (dg n).length) * ((n * f:Nat):Int)≤((m * f:Nat):Int):=by
              have:=Int.mul_le_mul_of_nonneg_left h (Int.le_of_lt hpk)
              omega
            have s4:(bp ((dg m).length+1 - (dg n).length) * (n:Int)) * f≤(m:Int) * f:=by
              have:((n * f:Nat):Int)=(n:Int) * f:=by simp
              rw[this] at s3
              have:((m * f:Nat):Int)=(m:Int) * f:=by simp
              rw[this] at s3
              rw[Int.mul_assoc]; exact s3
            have s5:=Int.le_of_mul_le_mul_right s4 (by omega)
            have s6:bp ((dg m).length+1 - (dg n).length) * bp ((dg n).length - 1)≤bp ((dg m).length+1 - (dg n).length) * (n:Int):=Int.mul_le_mul_of_nonneg_left hnlow (by omega)
            rw[← zuB,show (dg m).length+1 - (dg n).length+((dg n).length - 1)=(dg m).length by omega] at s6
            have s7:=(zgn (n:=m)).1 (Nat.le_refl _)
            omega
        · rw[hXv,List.drop_of_length_le (by simp),nv]; simp
      have hyl':(((dg n).length:Nat):Int)=(y.length:Int):=by rw[hyl]
      obtain ⟨x1,out,hr,hR⟩:=zAB (f:=(f:Int)) hyd (by omega) (zhb htl) hyt (by omega) ((dg m).length+1 - (dg n).length) (by omega) hI
      rw[hyl',hr,Option.bind_some]
      simp only[]
      have hv:=hR.val
      have hlt2:=hR.lt
      have hx1l:=hR.xlen
      have hol:=hR.olen
      rw[List.drop_zero] at hlt2
      rw[List.drop_zero,zpr,Int.one_mul,hyv] at hv
      rw[hyv] at hlt2
      have hx10:=zbc hR.xd
      have hout0:=zbc hR.od
      rw[zh3 (by omega),Option.bind_some,zrb hR.xd,zh3 (by omega)]
      obtain ⟨r,hr'⟩:∃ r:Nat,nv x1=(r:Int):=⟨(nv x1).toNat,by omega⟩
      obtain ⟨q,hq'⟩:∃ q:Nat,nv out=(q:Int):=⟨(nv out).toNat,by omega⟩
      rw[hr',hq'] at hv
      rw[hr'] at hlt2
      have hvN:m * f=r+n * f * q:=by exact_mod_cast hv
      have hltN:r < n * f:=by exact_mod_cast hlt2
      have hq:q=m / n:=by
        have h1:(m * f) / (n * f)=q:=by
          rw[hvN,Nat.add_mul_div_left _ _ (by omega),Nat.div_eq_of_lt hltN,Nat.zero_add]
        rw[← h1,Nat.mul_div_mul_right _ _ (by omega)]
      have hrr:r=(m % n) * f:=by
        have h1:(m * f) % (n * f)=r:=by
          rw[hvN,Nat.add_mul_mod_self_left,Nat.mod_eq_of_lt hltN]
        rw[← h1,Nat.mul_mod_mul_right]
      have hrl:(dg r).length≤1073740000:=by
        have:(dg r).length≤(dg m).length+1:=Nat.le_trans (zaG (show r≤m * f by omega)) hxl'
        omega
      rw[hr',Int.toNat_natCast,zqB hrl ⟨by omega,by omega⟩,Option.bind_some,zrb hR.od,hq',Int.toNat_natCast,Option.bind_some,hq,hrr,Nat.mul_div_cancel _ (by omega)]
end Go.Di
namespace Go.Di
theorem impl_gcd {m n:Nat} (hm:(dg m).length≤100000000) (hn:(dg n).length≤100000000) (h0:0 < m):zeK (dg m) (dg n)=some (dg (Nat.gcd m n)):=by
  unfold zeK zjV
  obtain ⟨r, h1,p,q,rfl,hg,hp0,hpl,hq⟩:=zcI (S:=zcd) (fun x=>∃ p q:Nat,x=(dg p,dg q,())∧Nat.gcd p q=Nat.gcd m n∧(p=0→2≤(dg q).length)∧(dg p).length≤100000000∧(dg q).length≤100000000) (fun x=>(nv x.2.1).toNat)
    (fun r=>∃ p q:Nat,r=(dg p,dg q,())∧Nat.gcd p q=Nat.gcd m n∧0 < p∧(dg p).length≤100000000∧(q=0∨(dg p).length≤1∧(dg q).length=1))
    (fun x hx => by
      obtain ⟨p,q,rfl,hg,hp,hpl,hql⟩:=hx
      have hstep:0 < q→(∃ y,((zba (dg p) (dg q)).bind fun (r0,r1)=>(some (Sum.inl (dg q,r1,())):Option ((List Int × List Int × Unit) ⊕ (List Int × List Int × Unit))))=some (.inl y)∧(∃ p' q':Nat,y=(dg p',dg q',())∧Nat.gcd p' q'=Nat.gcd m n∧(p'=0→2≤(dg q').length)∧(dg p').length≤100000000∧(dg q').length≤100000000)∧(nv y.2.1).toNat < (nv (dg q)).toNat):=by
        intro hq0
        rw[impl_div hpl hql hq0]
        refine ⟨_,rfl,⟨q,p % q,rfl,?_,fun e=>by omega,hql,?_⟩,?_⟩
        · rw[← hg,Nat.gcd_comm p q,Nat.gcd_rec q p,Nat.gcd_comm]
        · exact Nat.le_trans (zaG (Nat.mod_le p q)) hpl
        · simp only[zcA,Int.toNat_natCast]; exact Nat.mod_lt _ hq0
      by_cases hb:1 < (dg q).length
      · left
        have hq0:0 < q:=by
          rcases Nat.eq_zero_or_pos q with h | h
          · subst h; rw[zaE] at hb; simp at hb
          · exact h
        have e1:decide (((dg q).length:Int) > 1)=true:=by simp only[decide_eq_true_eq]; omega
        simp only[zcd,e1,cond_true]
        exact hstep hq0
      · have e1:decide (((dg q).length:Int) > 1)=false:=by simp only[decide_eq_false_iff_not]; omega
        have hpos:0 < p:=by
          rcases Nat.eq_zero_or_pos p with h | h
          · have:=hp h; omega
          · exact h
        by_cases ha:1 < (dg p).length
        · have e2:decide (((dg p).length:Int) > 1)=true:=by simp only[decide_eq_true_eq]; omega
          by_cases hq0:q=0
          · right
            subst hq0
            refine ⟨(dg p,dg 0,()),?_,p,0,rfl,hg,hpos,hpl,.inl rfl⟩
            simp only[zcd,e1,e2,cond_true,cond_false]
            simp[zaE]
          · left
            have hqn:dg q≠[]:=fun e=>hq0 (zfq.1 e)
            have e3:decide (((dg q).length:Int) > 0)=true:=by have:=List.length_pos_iff.2 hqn; simp only[decide_eq_true_eq]; omega
            simp only[zcd,e1,e2,e3,cond_true,cond_false]
            exact hstep (by omega)
        · right
          have e2:decide (((dg p).length:Int) > 1)=false:=by simp only[decide_eq_false_iff_not]; omega
          refine ⟨(dg p,dg q,()),?_,p,q,rfl,hg,hpos,hpl,?_⟩
          · simp only[zcd,e1,e2,cond_false]
          · by_cases hq0:q=0
            · exact .inl hq0
            · right
              have hqn:dg q≠[]:=fun e=>hq0 (zfq.1 e)
              have:=List.length_pos_iff.2 hqn
              exact ⟨by omega,by omega⟩)
    (x:=(dg m,dg n,())) ⟨m,n,rfl,rfl,fun e=>by omega,hm,hn⟩
  rw[h1,Option.bind_some]
  simp only[]
  rcases hq with rfl | ⟨hp1,hq1⟩
  · have:(((dg 0).length:Int)==0)=true:=by rw[zaE]; rfl
    rw[this,cond_true,zha (by omega),Option.bind_some,← hg,Nat.gcd_zero_right]
  · have hpn:dg p≠[]:=fun e=>by have:=zfq.1 e; omega
    have hpl1:(dg p).length=1:=by have:=List.length_pos_iff.2 hpn; omega
    obtain ⟨p0,pB,pe⟩:=zxQ hpl1
    obtain ⟨q0,qB,qe⟩:=zxQ hq1
    have:(((dg q).length:Int)==0)=false:=by rw[hq1]; rfl
    rw[this,cond_false,pe,qe,show ((0:Int)=((0:Nat):Int)) from rfl,zf0 (x:=(p:Int)) (by rfl),Option.bind_some,zf0 (x:=(q:Int)) (by rfl),Option.bind_some]
    unfold zjU
    rw [zo9 (S:=zdo) (fun x y h=>by
      have h1:((y:Int) != 0)=true:=by simp; omega
      simp only[zdo,h1,cond_true,zbf,Option.bind_some,zxw]) (fun x=>by simp[zdo]) q p,Option.bind_some]
    have hgp:Nat.gcd p q≤p:=Nat.gcd_le_left q p0
    have hgpos:0 < Nat.gcd p q:=Nat.gcd_pos_of_pos_left q p0
    simp only[]
    rw[← hg,zqL hgpos (by omega)]
end Go.Di
namespace Go.Di
def bg (z:Int):Bg:=⟨decide (z < 0),dg z.natAbs⟩
def sg (neg:Bool) (m:Nat):Int:=cond neg (-(m:Int)) m
theorem zjh (neg:Bool) (m:Nat):(sg neg m).natAbs=m:=by cases neg<;>simp[sg]
theorem zxE {neg:Bool} {m:Nat} (h:m≠0):decide (sg neg m < 0)=neg:=by
 cases neg with
 | false=>rw[decide_eq_false_iff_not]; simp only[sg,cond_false]; omega
 | true=>rw[decide_eq_true_eq]; simp only[sg,cond_true]; omega
theorem zG3 {neg:Bool} {m:Nat} (h:m≠0):bg (sg neg m)=⟨neg,dg m⟩:=by unfold bg; rw[zjh,zxE h]
theorem zsy:bg 0=⟨false,[]⟩:=by unfold bg; rw[show (0:Int).natAbs=0 from rfl,zaE]; rfl
theorem zrj (neg:Bool):sg neg 0=0:=by cases neg<;>rfl
theorem zos (z:Int):sg (decide (z < 0)) z.natAbs=z:=by
 by_cases h:z < 0
 ·rw[decide_eq_true h]; simp only[sg,cond_true]; omega
 ·rw[decide_eq_false h]; simp only[sg,cond_false]; omega
theorem zgy {m:Nat}:(((dg m).length:Int)==0)=decide (m=0):=by
 by_cases h:m=0
 ·subst h; simp[zaE]
 ·have hn:dg m≠[]:=fun e=>h (zfq.1 e)
  have:=List.length_pos_iff.2 hn
  rw[decide_eq_false h,beq_eq_false_iff_ne]; omega
theorem zh8 {m:Nat}:decide (((dg m).length:Int) > 0)=decide (m≠0):=by
 by_cases h:m=0
 ·subst h; simp[zaE]
 ·have hn:dg m≠[]:=fun e=>h (zfq.1 e)
  have:=List.length_pos_iff.2 hn
  rw[decide_eq_true h,decide_eq_true_eq]; omega
theorem zb2 (neg:Bool) (m:Nat):zay neg (dg m)=some (bg (sg neg m)):=by
 unfold zay
 rw[zgy]
 by_cases h:m=0
 ·subst h; rw[decide_eq_true rfl,cond_true,zrj,zsy]
 ·rw[decide_eq_false h,cond_false,zG3 h]
theorem ztx (neg:Bool) (m:Nat):zgP neg (dg m)=some (bg (sg neg m)):=zb2 neg m
theorem zSq (m:Nat):tz (dg m)=dg m:=by rw[zrb (zfh m),zcA,Int.toNat_natCast]
theorem zfd {m:Nat} (h:(dg m).length≤1073741824):zbu (dg m)=some (dg m):=by
  have key:zgB (dg m) ((dg m).length:Int)=some (dg m,((dg m).length:Int),()):=by
    unfold zgB
    refine zaw ?_
    by_cases hm:m=0
    · subst hm; simp[zdW,zaE]
    · have hne:dg m≠[]:=fun e=>hm (zfq.1 e)
      have hp:=List.length_pos_iff.2 hne
      have h0:(dg m).getLast hne≠0:=by
        intro e
        have:=(zb7 m).2
        rw[zpH,List.getLast?_eq_some_getLast hne,e] at this
        exact this rfl
      have h1:decide (((dg m).length:Int) > 0)=true:=by rw[decide_eq_true_eq]; omega
      have h2:((dg m).getLast hne==0)=false:=by rw[beq_eq_false_iff_ne]; exact h0
      simp only[zdW,h1,cond_true,zka hne h,Option.bind_some,h2,cond_false]
  unfold zbu
  rw[key,Option.bind_some]
  simp only[]
  rw[zmz _ _ (Nat.le_refl _),Option.bind_some,Int.toNat_natCast,show cut (dg m) 0 (dg m).length=dg m by simp[cut]]
theorem zHC {m:Nat} (h:(dg m).length≤60):zgN (dg m)=some (dg m):=by
 unfold zgN
 rw[zfd (by omega),Option.bind_some]
 have:decide (((dg m).length:Int) > 60)=false:=by rw[decide_eq_false_iff_not]; omega
 rw[this,cond_false]
theorem zc1 (neg:Bool) {m:Nat} (h:(dg m).length≤60):zat neg (dg m)=some (bg (sg neg m)):=by
 unfold zat
 rw[zHC h,Option.bind_some,room (by omega)]
 simp only[Option.bind_some,zh8]
 by_cases hm:m=0
 ·subst hm; rw[zrj,zsy,zaE]; cases neg<;>rfl
 ·rw[zG3 hm,decide_eq_true hm]; cases neg<;>rfl
theorem zh0 {m n k:Nat} (hm:(dg m).length≤k) (hn:(dg n).length≤k):(dg (m+n)).length≤k+1:=by
 rw[zgn] at *
 rw[zfs]
 have:((m+n:Nat):Int)=(m:Int)+n:=by omega
 omega
theorem zo2 {x y:Int} (hx:(dg x.natAbs).length≤1073740000) (hy:(dg y.natAbs).length≤1073740000):zfM (bg x) (bg y)=some (bg (x+y)):=by
  unfold zfM bg
  simp only[]
  by_cases h:decide (x < 0)=decide (y < 0)
  · have:(decide (x < 0)==decide (y < 0))=true:=by simpa using h
    rw[this,cond_true,zn2 hx hy,Option.bind_some,zb2,Option.bind_some]
    have e:sg (decide (x < 0)) (x.natAbs+y.natAbs)=x+y:=by
      by_cases hx0:x < 0
      · rw[decide_eq_true hx0]; rw[decide_eq_true hx0] at h; have:=of_decide_eq_true h.symm; simp only[sg,cond_true]; omega
      · rw[decide_eq_false hx0]; rw[decide_eq_false hx0] at h; have:=of_decide_eq_false h.symm; simp only[sg,cond_false]; omega
    rw[e]; rfl
  · have : (decide (x < 0)==decide (y < 0))=false:=by simpa using h
    have hcmp:=zrG (zb7 x.natAbs) (zb7 y.natAbs) (by omega)
    rw[zcA,zcA] at hcmp
    rw[this,cond_false,hcmp,Option.bind_some,zsu]
    by_cases hge:y.natAbs≤x.natAbs
    · rw [decide_eq_true (show ((y.natAbs:Nat):Int)≤x.natAbs by omega),cond_true,zrF hx hge,Option.bind_some,zb2,Option.bind_some]
      have e:sg (decide (x < 0)) (x.natAbs - y.natAbs)=x+y:=by
        by_cases hx0:x < 0
        · rw[decide_eq_true hx0]; simp only[sg,cond_true]; simp[hx0] at h; omega
        · rw[decide_eq_false hx0]; simp only[sg,cond_false]; simp[hx0] at h; omega
      rw[e]; rfl
    · rw [decide_eq_false (show ¬ ((y.natAbs:Nat):Int)≤x.natAbs by omega),cond_false,zrF hy (by omega),Option.bind_some,zb2,Option.bind_some]
      have e:sg (decide (y < 0)) (y.natAbs - x.natAbs)=x+y:=by
        by_cases hx0:x < 0
        · simp[hx0] at h; rw[decide_eq_false (by omega)]; simp only[sg,cond_false]; omega
        · simp[hx0] at h; rw[decide_eq_true (by omega)]; simp only[sg,cond_true]; omega
      rw[e]; rfl
theorem zop {x y:Int} (hx:(dg x.natAbs).length≤59) (hy:(dg y.natAbs).length≤59):zc4 (bg x) (bg y)=some (bg (x+y)):=by
  unfold zc4 bg
  simp only[]
  by_cases h:decide (x < 0)=decide (y < 0)
  · have:(decide (x < 0)==decide (y < 0))=true:=by simpa using h
    rw[this,cond_true,spec_add (by omega) (by omega),Option.bind_some,zc1 _ (zh0 hx hy),Option.bind_some]
    have e:sg (decide (x < 0)) (x.natAbs+y.natAbs)=x+y:=by
      by_cases hx0:x < 0
      · rw[decide_eq_true hx0]; rw[decide_eq_true hx0] at h; have:=of_decide_eq_true h.symm; simp only[sg,cond_true]; omega
      · rw[decide_eq_false hx0]; rw[decide_eq_false hx0] at h; have:=of_decide_eq_false h.symm; simp only[sg,cond_false]; omega
    rw[e]; rfl
  · have : (decide (x < 0)==decide (y < 0))=false:=by simpa using h
    have hcmp:=zlL (zb7 x.natAbs) (zb7 y.natAbs) (by omega)
    rw[zcA,zcA] at hcmp
    rw[this,cond_false,hcmp,Option.bind_some,zsu]
    by_cases hge:y.natAbs≤x.natAbs
    · rw [decide_eq_true (show ((y.natAbs:Nat):Int)≤x.natAbs by omega),cond_true,zrg (by omega) hge,Option.bind_some,zc1 _ (Nat.le_trans (zaG (Nat.sub_le ..)) (by omega)),Option.bind_some]
      have e:sg (decide (x < 0)) (x.natAbs - y.natAbs)=x+y:=by
        by_cases hx0:x < 0
        · rw[decide_eq_true hx0]; simp only[sg,cond_true]; simp[hx0] at h; omega
        · rw[decide_eq_false hx0]; simp only[sg,cond_false]; simp[hx0] at h; omega
      rw[e]; rfl
    · rw [decide_eq_false (show ¬ ((y.natAbs:Nat):Int)≤x.natAbs by omega),cond_false,zrg (by omega) (by omega),Option.bind_some,zc1 _ (Nat.le_trans (zaG (Nat.sub_le ..)) (by omega)),Option.bind_some]
      have e:sg (decide (y < 0)) (y.natAbs - x.natAbs)=x+y:=by
        by_cases hx0:x < 0
        · simp[hx0] at h; rw[decide_eq_false (by omega)]; simp only[sg,cond_false]; omega
        · simp[hx0] at h; rw[decide_eq_true (by omega)]; simp only[sg,cond_true]; omega
      rw[e]; rfl
theorem zDp (x y:Int):sg (!(decide (x < 0)==decide (y < 0))) (x.natAbs * y.natAbs)=x * y:=by
 rw[← Int.natAbs_mul]
 by_cases hx:x < 0
 ·by_cases hy:y < 0
  ·have:=Int.mul_pos_of_neg_of_neg hx hy
   rw[decide_eq_true hx,decide_eq_true hy]; simp only[sg]; simp; omega
  ·rw[decide_eq_true hx,decide_eq_false hy]
   have:=Int.mul_nonpos_of_nonpos_of_nonneg (show x≤0 by omega) (show 0≤y by omega)
   simp only[sg]; simp; omega
 ·by_cases hy:y < 0
  ·rw[decide_eq_false hx,decide_eq_true hy]
   have:=Int.mul_nonpos_of_nonneg_of_nonpos (show 0≤x by omega) (show y≤0 by omega)
   simp only[sg]; simp; omega
  ·rw[decide_eq_false hx,decide_eq_false hy]
   have:=Int.mul_nonneg (show 0≤x by omega) (show 0≤y by omega)
   simp only[sg]; simp; omega
theorem ziG {x y:Int} (hx:(dg x.natAbs).length≤500000000) (hy:(dg y.natAbs).length≤500000000):zcv (bg x) (bg y)=some (bg (x * y)):=by
 unfold zcv bg
 simp only[]
 rw[zkd hx hy,Option.bind_some,zb2,Option.bind_some,zDp]; rfl
theorem zwQ {x:Int} (hx:(dg x.natAbs).length≤500000000):zgR (bg x)=some (bg (-x)):=by
 unfold zgR bg
 simp only[]
 rw[zha (by omega),Option.bind_some,zb2,Option.bind_some]
 have e:sg (!decide (x < 0)) x.natAbs = -x:=by
  by_cases h:x < 0
  ·rw[decide_eq_true h]; simp only[sg,Bool.not_true,cond_false]; omega
  ·rw[decide_eq_false h]; simp only[sg,Bool.not_false,cond_true]; omega
 rw[e]; rfl
/-! ### Fractions -/
def rq (q:Rat):Rt:=⟨decide (q.num < 0),dg q.num.natAbs,dg q.den⟩
def Fit (q:Rat):Prop:=(dg q.num.natAbs).length≤24∧(dg q.den).length≤24
instance (q:Rat):Decidable (Fit q):=by unfold Fit; infer_instance
def ro:Option Rat→Rt
 | none=>⟨false,[],[]⟩
 | some q=>rq q
def chk (q:Rat):Option Rat:=if Fit q then some q else none
def Oks (o:Option Rat):Prop:=∀ q,o=some q→Fit q
theorem zmw (q:Rat):Oks (chk q):=fun r h=>by
 unfold chk at h
 split at h
 ·rename_i hf; cases h; exact hf
 ·cases h
theorem zeA:Oks none:=fun q h=>by cases h
theorem Fit.ok {q:Rat} (h:Fit q):Oks (some q):=fun r hr=>by cases hr; exact h
theorem ziL {q:Rat} (h:Fit q):chk q=some q:=by unfold chk; rw[if_pos h]
theorem zw3 {q:Rat} (h:¬ Fit q):chk q=none:=by unfold chk; rw[if_neg h]
theorem zhs {o:Option Rat} {f:Rat→Option Rat} (h:∀ q,Oks (f q)):Oks (o.bind f):=by
 cases o with
 | none=>exact zeA
 | some q=>exact h q
theorem zj8 (z:Int) {d:Nat} (hd:d≠0):(mkRat z d).num=z / (Nat.gcd z.natAbs d:Nat)∧(mkRat z d).den=d / Nat.gcd z.natAbs d:=by
 rw[Rat.mkRat_def,dif_neg hd,Rat.normalize_eq]
 exact ⟨rfl,rfl⟩
theorem zx1 (z:Int) {d:Nat} (hd:d≠0):(mkRat z d).num.natAbs=z.natAbs / Nat.gcd z.natAbs d:=by
 rw[(zj8 z hd).1]
 have h1:(Nat.gcd z.natAbs d:Nat) ∣ z.natAbs:=Nat.gcd_dvd_left ..
 rw[Int.natAbs_ediv_of_dvd (Int.ofNat_dvd_left.2 h1)]; rfl
theorem zMU (z:Int) {d:Nat} (hd:d≠0):decide ((mkRat z d).num < 0)=decide (z < 0):=by
 rw[(zj8 z hd).1]
 have hg:0 < Nat.gcd z.natAbs d:=Nat.gcd_pos_of_pos_right _ (by omega)
 have h1:((Nat.gcd z.natAbs d:Nat):Int) ∣ z:=Int.ofNat_dvd_left.2 (Nat.gcd_dvd_left ..)
 obtain ⟨c,hc⟩:=h1
 generalize Nat.gcd z.natAbs d=g at *
 rw[hc,Int.mul_ediv_cancel_left _ (by omega)]
 congr 1
 apply propext
 constructor
 ·intro h; exact Int.mul_neg_of_pos_of_neg (by omega) h
 ·intro h
  rcases Int.lt_or_le c 0 with h2 | h2
  ·exact h2
  ·have:=Int.mul_nonneg (show (0:Int)≤g by omega) h2; omega
theorem zRC (z:Int) {d:Nat} (hd:d≠0):rq (mkRat z d)=⟨decide (z < 0),dg (z.natAbs / Nat.gcd z.natAbs d),dg (d / Nat.gcd z.natAbs d)⟩:=by
 unfold rq
 rw[zMU z hd,zx1 z hd,(zj8 z hd).2]
theorem zFV (z:Int) {d:Nat} (hd:d≠0):Fit (mkRat z d)↔(dg (z.natAbs / Nat.gcd z.natAbs d)).length≤24∧(dg (d / Nat.gcd z.natAbs d)).length≤24:=by
 unfold Fit
 rw[zx1 z hd,(zj8 z hd).2]
theorem zeR:dg 1=[1]:=zqL (by omega) (by omega)
theorem zDy:rq 0=⟨false,[],[1]⟩:=by
 unfold rq
 have h1:(0:Rat).num=0:=rfl
 have h2:(0:Rat).den=1:=rfl
 rw[h1,h2,show (0:Int).natAbs=0 from rfl,zaE,zeR]; rfl
theorem zym:Fit 0:=by
 unfold Fit
 have h1:(0:Rat).num=0:=rfl
 have h2:(0:Rat).den=1:=rfl
 rw[h1,h2,show (0:Int).natAbs=0 from rfl,zaE,zeR]; simp
theorem zs3 {m:Nat}:(cond (((dg m).length:Int)==1) ((idx (dg m) 0).bind fun e=>some (e==1)) (some false))=some (decide (m=1)):=by
 by_cases h1:(dg m).length=1
 ·have hb:(((dg m).length:Int)==1)=true:=by rw[h1]; rfl
  obtain ⟨_,_,e⟩:=zxQ h1
  rw[hb,cond_true,e,show ((0:Int)=((0:Nat):Int)) from rfl,zf0 (x:=(m:Int)) (by rfl),Option.bind_some]
  congr 1
  rw[Bool.eq_iff_iff]; simp; omega
 ·have hb:(((dg m).length:Int)==1)=false:=by rw[beq_eq_false_iff_ne]; omega
  rw[hb,cond_false]
  have:m≠1:=by rintro rfl; rw[zeR] at h1; exact h1 rfl
  rw[decide_eq_false this]
theorem zqE (m:Nat):zdH (dg m)=some (decide (m=1)):=zs3
theorem zfe (m:Nat):zct (dg m)=some (decide (m=1)):=zs3
theorem zHu {xs:List Int}:decide ((xs.length:Int) > 24)=!decide (xs.length≤24):=by
 rw[Bool.eq_iff_iff]; simp; omega
theorem zN1 {p q:Prop} [Decidable p] [Decidable q] {α:Type} {a b:α}:cond (!decide p) a (cond (!decide q) a b)=if p∧q then b else a:=by
 by_cases hp:p<;>by_cases hq:q<;>simp[hp,hq]
theorem zsV (z:Int) {d:Nat} (hd:d≠0):ro (chk (mkRat z d))=if (dg (z.natAbs / Nat.gcd z.natAbs d)).length≤24∧(dg (d / Nat.gcd z.natAbs d)).length≤24 then ⟨decide (z < 0),dg (z.natAbs / Nat.gcd z.natAbs d),dg (d / Nat.gcd z.natAbs d)⟩ else ⟨false,[],[]⟩:=by
 by_cases h:Fit (mkRat z d)
 ·rw[ziL h,if_pos ((zFV z hd).1 h)]; exact zRC z hd
 ·rw[zw3 h,if_neg (fun k=>h ((zFV z hd).2 k))]; rfl
theorem ze7 {z:Int} {d:Nat} (hd:d≠0) (hz:(dg z.natAbs).length≤100000000) (hl:(dg d).length≤100000000):zbR (bg z) (dg d)=some (ro (chk (mkRat z d))):=by
  unfold zbR bg
  simp only[]
  rw[zgy]
  by_cases h0:z.natAbs=0
  · have:z=0:=by omega
    subst this
    rw[decide_eq_true h0,cond_true,Rat.zero_mkRat,ziL zym]
    exact congrArg some zDy.symm
  · rw [decide_eq_false h0,cond_false,impl_gcd hl hz (by omega),Option.bind_some,zqE,Option.bind_some,zsV z hd]
    have hg0:0 < Nat.gcd d z.natAbs:=Nat.gcd_pos_of_pos_left _ (by omega)
    rw[Nat.gcd_comm z.natAbs d]
    by_cases h1:Nat.gcd d z.natAbs=1
    · rw[decide_eq_true h1,Bool.not_true,cond_false,h1,Nat.div_one,Nat.div_one,zHu,zHu,zN1]
      split<;>rfl
    · have hgl:(dg (Nat.gcd d z.natAbs)).length≤100000000:=Nat.le_trans (zaG (Nat.gcd_le_left _ (by omega))) hl
      have hzne:z.natAbs / Nat.gcd d z.natAbs≠0:=by
        have:=Nat.div_pos (Nat.gcd_le_right (n:=z.natAbs) d (by omega)) hg0
        omega
      rw[decide_eq_false h1,Bool.not_false,cond_true,impl_div hz hgl hg0,Option.bind_some]
      simp only[]
      rw[impl_div hl hgl hg0,Option.bind_some]
      simp only[]
      rw[zb2,Option.bind_some,zG3 hzne,zHu,zHu,zN1]
      split<;>rfl
theorem ztA {z:Int} {d:Nat} (hd:d≠0) (hz:(dg z.natAbs).length≤100000000) (hl:(dg d).length≤100000000):zgQ (bg z) (dg d)=some (ro (chk (mkRat z d))):=ze7 hd hz hl
theorem ziw {neg:Bool} {m d:Nat} (hd:d≠0) (hz:(dg m).length≤100000000) (hl:(dg d).length≤100000000):zaL neg (dg m) (dg d)=some (ro (chk (mkRat (sg neg m) d))):=by
  unfold zaL
  rw[zfd (by omega),Option.bind_some,zfd (by omega),Option.bind_some,zgy,decide_eq_false hd,cond_false,zfe,Option.bind_some,zsV _ hd,zjh]
  have fin:∀ (p e:Nat),(m=0↔p=0)→((cond (decide (((dg p).length:Int) > 24)) (some (⟨false,([]:List Int),([]:List Int)⟩:Rt)) (cond (decide (((dg e).length:Int) > 24)) (some (⟨false,([]:List Int),([]:List Int)⟩:Rt)) ((zat neg (dg p)).bind fun r3=>(zah (Nat.ble (dg e).length zan)).bind fun _=>some (⟨r3.neg,r3.mag,dg e⟩:Rt))))
      = some (if (dg p).length≤24∧(dg e).length≤24 then ⟨decide (sg neg m < 0),dg p,dg e⟩ else ⟨false,[],[]⟩)):=by
    intro p e hpm
    rw[zHu,zHu,zN1]
    by_cases hf:(dg p).length≤24∧(dg e).length≤24
    · rw [if_pos hf,if_pos hf,zc1 neg (by omega),Option.bind_some,room (by omega),Option.bind_some]
      by_cases hp:p=0
      · subst hp; have:=hpm.2 rfl; subst this; rw[zrj,zsy,zaE]; rfl
      · have hm:m≠0:=fun e=>hp (hpm.1 e)
        rw[zG3 hp,zxE hm]
    · rw[if_neg hf,if_neg hf]
  by_cases h1:d=1
  · rw[decide_eq_true h1,Bool.not_true,cond_false]
    subst h1
    rw[Nat.gcd_one_right,Nat.div_one,Nat.div_one]
    exact fin m 1 Iff.rfl
  · have hg0:0 < Nat.gcd m d:=Nat.gcd_pos_of_pos_right _ (by omega)
    rw[decide_eq_false h1,Bool.not_false,cond_true,spec_gcd hz hl,Option.bind_some,zfe,Option.bind_some]
    by_cases h2:Nat.gcd m d=1
    · rw[decide_eq_true h2,Bool.not_true,cond_false,h2,Nat.div_one,Nat.div_one]
      exact fin m d Iff.rfl
    · have hgl:(dg (Nat.gcd m d)).length≤100000000:=Nat.le_trans (zaG (Nat.gcd_le_right _ (by omega))) hl
      rw[decide_eq_false h2,Bool.not_false,cond_true,zix hz hgl hg0,Option.bind_some]
      simp only[]
      rw[zix hl hgl hg0,Option.bind_some]
      simp only[]
      refine fin _ _ ⟨fun e=>by rw[e,Nat.zero_div],fun e=>?_⟩
      rcases Nat.eq_zero_or_pos m with h | h
      · exact h
      · have:=Nat.div_pos (Nat.gcd_le_left (m:=m) d h) hg0; omega
theorem zhQ {neg:Bool} {m:Nat} (hz:(dg m).length≤100000000):zaL neg (dg m) (dg 0)=some (ro none):=by
 unfold zaL
 rw[zfd (by omega),Option.bind_some,zfd (by rw[zaE]; simp),Option.bind_some,zgy,decide_eq_true rfl,cond_true]; rfl
end Go.Di
namespace Go.Di
def zmk (o p:Option Rat):Option Rat:=o.bind fun q=>p.bind fun r=>chk (q+r)
def zk9 (o p:Option Rat):Option Rat:=o.bind fun q=>p.bind fun r=>chk (q * r)
def divO (o p:Option Rat):Option Rat:=o.bind fun q=>p.bind fun r=>if r=0 then none else chk (q / r)
def zRq (o:Option Rat):Option Rat:=o.map fun q => -q
def zsB (o p:Option Rat):Option Rat:=zmk o (zRq p)
theorem ziB {o p:Option Rat}:Oks (zmk o p):=zhs fun _=>zhs fun _=>zmw _
theorem zfm {o p:Option Rat}:Oks (zk9 o p):=zhs fun _=>zhs fun _=>zmw _
theorem zxR {o p:Option Rat}:Oks (zsB o p):=ziB
theorem zxT {o p:Option Rat}:Oks (divO o p):=zhs fun _=>zhs fun r=>by
 split
 ·exact zeA
 ·exact zmw _
theorem zN6 {q:Rat} (h:Fit q):Fit (-q):=by
 unfold Fit at *
 rw[show (-q).num = -q.num from rfl,show (-q).den=q.den from rfl,Int.natAbs_neg]; exact h
theorem zxS {o:Option Rat} (h:Oks o):Oks (zRq o):=fun q hq=>by
 cases o with
 | none=>cases hq
 | some r=>cases hq; exact zN6 (h r rfl)
theorem zfY:ro none=⟨false,dg 0,dg 0⟩:=by rw[zaE]; rfl
theorem zlQ {o:Option Rat} (h:Oks o):(ro o).den.length≤24:=by
 cases o with
 | none=>simp[ro]
 | some q=>exact (h q rfl).2
theorem zoy {o:Option Rat} (h:Oks o):(ro o).mag.length≤24:=by
 cases o with
 | none=>simp[ro]
 | some q=>exact (h q rfl).1
theorem zc2 {o:Option Rat} (h:Oks o):(ro o).fit:=⟨by have:=zoy h; omega,by have:=zlQ h; omega⟩
theorem zyv (o:Option Rat):(((ro o).den.length:Int)==0)=o.isNone:=by
  cases o with
  | none=>rfl
  | some q =>
    show (((dg q.den).length:Int)==0)=false
    rw[zgy,decide_eq_false q.den_nz]
theorem zel (o:Option Rat):za8 (ro o)=some o.isNone:=by unfold za8; rw[zyv]
theorem zoM (a b:Rat) (h:a.den=b.den):mkRat (a.num+b.num) a.den=a+b:=by
 rw[Rat.add_def',Rat.mkRat_eq_iff a.den_nz (Nat.mul_ne_zero a.den_nz b.den_nz),← h]
 simp only[Int.natCast_mul]
 grind
theorem zDZ (a b:Rat):mkRat (a.num * b.den+b.num * a.den) (a.den * b.den)=a+b:=(Rat.add_def' a b).symm
theorem zDX (a b:Rat):mkRat (a.num * b.num) (a.den * b.den)=a * b:=(Rat.mul_def' a b).symm
theorem zs8 (a b:Rat) (hb:b≠0):mkRat (a.num * sg (decide (b.num < 0)) b.den) (a.den * b.num.natAbs)=a / b:=by
  have hn:b.num≠0:=fun h=>hb (Rat.num_eq_zero.1 h)
  have hd:a.den * b.num.natAbs≠0:=Nat.mul_ne_zero a.den_nz (by omega)
  have key:mkRat (a.num * sg (decide (b.num < 0)) b.den) (a.den * b.num.natAbs) * b=a:=by
    have e1:b=mkRat b.num b.den:=(Rat.mkRat_self b).symm
    have e2:a=mkRat a.num a.den:=(Rat.mkRat_self a).symm
    rw[e1,Rat.mkRat_mul_mkRat,e2,Rat.mkRat_eq_iff (Nat.mul_ne_zero (by rw[Rat.mkRat_self,Rat.mkRat_self]; exact hd) b.den_nz) a.den_nz]
    simp only[Rat.mkRat_self]
    have hs:sg (decide (b.num < 0)) b.den * b.num=(b.den:Int) * (b.num.natAbs:Int):=by
      by_cases h:b.num < 0
      · rw[decide_eq_true h]; simp only[sg,cond_true]
        have:((b.num.natAbs:Nat):Int) = -b.num:=by omega
        rw[this]; grind
      · rw[decide_eq_false h]; simp only[sg,cond_false]
        have:((b.num.natAbs:Nat):Int)=b.num:=by omega
        rw[this]
    simp only[Int.natCast_mul]
    grind
  generalize mkRat (a.num * sg (decide (b.num < 0)) b.den) (a.den * b.num.natAbs)=x at *
  rw[← key,Rat.mul_div_cancel hb]
theorem zfX {a b:Nat} (ha:(dg a).length≤24) (hb:(dg b).length≤24):(dg (a * b)).length≤48:=by have:=zj9 a b; omega
theorem zMf {n:Nat}:bg (n:Int)=⟨false,dg n⟩:=by
 unfold bg
 rw[decide_eq_false (by omega),Int.natAbs_natCast]
theorem zlN {x:Int} {b:Nat} (ha:(dg x.natAbs).length≤24) (hb:(dg b).length≤24):(dg (x * (b:Int)).natAbs).length≤48:=by
 rw[Int.natAbs_mul,Int.natAbs_natCast]; exact zfX ha hb
theorem zlO {x y:Int} {k:Nat} (ha:(dg x.natAbs).length≤k) (hb:(dg y.natAbs).length≤k):(dg (x+y).natAbs).length≤k+1 :=
 Nat.le_trans (zaG (show (x+y).natAbs≤x.natAbs+y.natAbs by omega)) (zh0 ha hb)
theorem zl5 {o p:Option Rat} (ho:Oks o) (hp:Oks p):zeM (ro o) (ro p)=some (ro (zmk o p)):=by
  unfold zeM
  rw[zel,zel]
  cases o with
  | none=>rfl
  | some q =>
    cases p with
    | none=>rfl
    | some r =>
      have fq:=ho q rfl
      have fr:=hp r rfl
      simp only[Option.isNone_some,Option.bind_some,cond_false]
      rw[zo1 (by have:=zlQ ho; omega),Option.bind_some]
      show cond _ ((zfM (bg q.num) (bg r.num)).bind _) ((zcv (bg q.num) ⟨false,dg r.den⟩).bind fun r4=>(zcv (bg r.num) ⟨false,dg q.den⟩).bind _)=_
      by_cases h:q.den=r.den
      · have:eqB (ro (some q)).den (ro (some r)).den=true:=zb9.2 (congrArg dg h)
        rw[this,cond_true,zo2 (by have:=fq.1; omega) (by have:=fr.1; omega),Option.bind_some,zha (by have:=zlQ ho; omega),Option.bind_some]
        show (zbR (bg (q.num+r.num)) (dg q.den)).bind _=_
        rw[ze7 q.den_nz (by have:=zlO fq.1 fr.1; omega) (by have:=fq.2; omega),Option.bind_some,zoM q r h]; rfl
      · have:eqB (ro (some q)).den (ro (some r)).den=false:=zdV.2 fun e=>h (zF0 e)
        rw[this,cond_false,← zMf,← zMf,ziG (by have:=fq.1; omega) (by have:=fr.2; rw[Int.natAbs_natCast]; omega),Option.bind_some,ziG (by have:=fr.1; omega) (by have:=fq.2; rw[Int.natAbs_natCast]; omega),Option.bind_some]
        have h1:=zlN fq.1 fr.2
        have h2:=zlN fr.1 fq.2
        rw[zo2 (by omega) (by omega),Option.bind_some]
        show ((zbL (dg q.den) (dg r.den)).bind _)=_
        have h3:=zfX fq.2 fr.2
        have h4:=zlO h1 h2
        rw[zkd (by have:=fq.2; omega) (by have:=fr.2; omega),Option.bind_some,ze7 (Nat.mul_ne_zero q.den_nz r.den_nz) (by omega) (by omega),Option.bind_some,zDZ]; rfl
theorem zjr {o p:Option Rat} (ho:Oks o) (hp:Oks p):zcH (ro o) (ro p)=some (ro (zk9 o p)):=by
  unfold zcH
  rw[zel,zel]
  cases o with
  | none=>rfl
  | some q =>
    cases p with
    | none=>rfl
    | some r =>
      have fq:=ho q rfl
      have fr:=hp r rfl
      simp only[Option.isNone_some,Option.bind_some,cond_false]
      show ((zcv (bg q.num) (bg r.num)).bind fun r3=>(zbL (dg q.den) (dg r.den)).bind _)=_
      have h3:=zfX fq.2 fr.2
      have h4:=zfX fq.1 fr.1
      rw[ziG (by have:=fq.1; omega) (by have:=fr.1; omega),Option.bind_some,zkd (by have:=fq.2; omega) (by have:=fr.2; omega),Option.bind_some,ze7 (Nat.mul_ne_zero q.den_nz r.den_nz) (by rw[Int.natAbs_mul]; omega) (by omega),Option.bind_some,zDX]; rfl
theorem impl_divO {o p:Option Rat} (ho:Oks o) (hp:Oks p):zfj (ro o) (ro p)=some (ro (divO o p)):=by
  unfold zfj
  rw[zel,zel]
  cases o with
  | none=>rfl
  | some q =>
    cases p with
    | none=>rfl
    | some r =>
      have fq:=ho q rfl
      have fr:=hp r rfl
      simp only[Option.isNone_some,Option.bind_some,cond_false]
      have hl:(((ro (some r)).mag.length:Int)==0)=decide (r.num.natAbs=0):=zgy
      rw[hl]
      by_cases h0:r=0
      · have:r.num.natAbs=0:=by rw[h0]; rfl
        rw[decide_eq_true this,cond_true]
        simp[divO,h0,ro]
      · have hn:r.num.natAbs≠0:=fun h=>h0 (Rat.num_eq_zero.1 (by omega))
        rw[decide_eq_false hn,cond_false]
        unfold zcH
        rw[zel]
        simp only[Option.isNone_some,Option.bind_some,cond_false]
        have hv:za8 (⟨(ro (some r)).neg,(ro (some r)).den,(ro (some r)).mag⟩:Rt)=some false:=by
          unfold za8
          rw[show ((((⟨(ro (some r)).neg,(ro (some r)).den,(ro (some r)).mag⟩:Rt).den.length:Nat):Int)==0)=decide (r.num.natAbs=0) from zgy,decide_eq_false hn]
        rw[hv,Option.bind_some,cond_false]
        have hb:(⟨(ro (some r)).neg,(ro (some r)).den⟩:Bg)=bg (sg (decide (r.num < 0)) r.den):=(zG3 r.den_nz).symm
        show (((zcv (bg q.num) ⟨(ro (some r)).neg,(ro (some r)).den⟩).bind fun r3=>(zbL (dg q.den) (dg r.num.natAbs)).bind fun r4=>_).bind _)=_
        rw[hb]
        have h3:=zfX fq.2 fr.1
        have h4:=zfX fq.1 fr.2
        rw[ziG (by have:=fq.1; omega) (by have:=fr.2; rw[zjh]; omega),Option.bind_some,zkd (by have:=fq.2; omega) (by have:=fr.1; omega),Option.bind_some,ze7 (Nat.mul_ne_zero q.den_nz hn) (by rw[Int.natAbs_mul,zjh]; omega) (by omega),Option.bind_some,Option.bind_some,zs8 q r h0]
        simp[divO,h0]
theorem zFK {o:Option Rat} (ho:Oks o):zmJ (ro o)=some (ro (zRq o)):=by
  unfold zmJ
  rw[zel]
  cases o with
  | none=>rfl
  | some q =>
    have fq:=ho q rfl
    simp only[Option.isNone_some,Option.bind_some,cond_false]
    show ((zgR (bg q.num)).bind fun r2=>(za3 (dg q.den)).bind _)=_
    rw[zwQ (by have:=fq.1; omega),Option.bind_some,zha (by have:=fq.2; omega),Option.bind_some]
    show some (⟨decide (-q.num < 0),dg (-q.num).natAbs,dg q.den⟩:Rt)=some ⟨decide ((-q).num < 0),dg (-q).num.natAbs,dg (-q).den⟩
    rfl
theorem zFI {o p:Option Rat} (ho:Oks o) (hp:Oks p):zif (ro o) (ro p)=some (ro (zsB o p)):=by
 unfold zif
 rw[zFK hp,Option.bind_some,zl5 ho (zxS hp)]; rfl
/-! ### The reference's -/
theorem zhP {o p:Option Rat} (ho:Oks o) (hp:Oks p):zbr (ro o) (ro p)=some (ro (zk9 o p)):=by
  unfold zbr
  have hom:=zoy ho
  have hpm:=zoy hp
  have hod:=zlQ ho
  have hpd:=zlQ hp
  cases o with
  | none =>
    obtain ⟨m,d,e1,e2⟩:∃ m d:Nat,(ro p).mag=dg m∧(ro p).den=dg d:=by
      cases p with
      | none=>exact ⟨0,0,zaE.symm,zaE.symm⟩
      | some r=>exact ⟨_,_,rfl,rfl⟩
    rw[e1] at hpm; rw[e2] at hpd
    rw[zfY,e1,e2]
    rw[zc0 (by rw[zaE]; simp) (by omega),Option.bind_some,zc0 (by rw[zaE]; simp) (by omega),Option.bind_some,Nat.zero_mul,Nat.zero_mul,zhQ (by rw[zaE]; simp),Option.bind_some]; rfl
  | some q =>
    cases p with
    | none =>
      have fq:=ho q rfl
      rw[zfY]
      show ((zaA (dg q.num.natAbs) (dg 0)).bind fun r1=>(zaA (dg q.den) (dg 0)).bind _)=_
      rw[zc0 (by have:=fq.1; omega) (by rw[zaE]; simp),Option.bind_some,zc0 (by have:=fq.2; omega) (by rw[zaE]; simp),Option.bind_some,Nat.mul_zero,Nat.mul_zero,zhQ (by rw[zaE]; simp),Option.bind_some]; rfl
    | some r =>
      have fq:=ho q rfl
      have fr:=hp r rfl
      have h3:=zfX fq.2 fr.2
      have h4:=zfX fq.1 fr.1
      show ((zaA (dg q.num.natAbs) (dg r.num.natAbs)).bind fun r1=>(zaA (dg q.den) (dg r.den)).bind fun r2=>(zaL (!(decide (q.num < 0)==decide (r.num < 0))) r1 r2).bind _)=_
      rw[zc0 (by have:=fq.1; omega) (by have:=fr.1; omega),Option.bind_some,zc0 (by have:=fq.2; omega) (by have:=fr.2; omega),Option.bind_some,ziw (Nat.mul_ne_zero q.den_nz r.den_nz) (by omega) (by omega),Option.bind_some,zDp,zDX]; rfl
theorem zxD (x:Int) (d:Nat):sg (decide (x < 0)) (x.natAbs * d)=x * d:=by
 by_cases h:x < 0
 ·rw [decide_eq_true h]; simp only[sg,cond_true]
  have:((x.natAbs * d:Nat):Int)=(-x) * d:=by
   rw[Int.natCast_mul]; congr 1; omega
  rw[this]; grind
 ·rw[decide_eq_false h]; simp only[sg,cond_false]
  rw[Int.natCast_mul]; congr 1; omega
theorem spec_addO {o p:Option Rat} (ho:Oks o) (hp:Oks p):zaz (ro o) (ro p)=some (ro (zmk o p)):=by
  have hom:=zoy ho
  have hpm:=zoy hp
  have hod:=zlQ ho
  have hpd:=zlQ hp
  -- the long way, for any two values
  have long:∀ (x y:Int) (d e:Nat),(dg x.natAbs).length≤24→(dg y.natAbs).length≤24→(dg d).length≤24→(dg e).length≤24 →
      ((zaA (dg x.natAbs) (dg e)).bind fun r2 =>
      (zat (decide (x < 0)) r2).bind fun r3 =>
      (zaA (dg y.natAbs) (dg d)).bind fun r4 =>
      (zat (decide (y < 0)) r4).bind fun r5 =>
      (zc4 r3 r5).bind fun r6 =>
      (zaA (dg d) (dg e)).bind fun r7 =>
      (zaL r6.neg r6.mag r7).bind fun r8 =>
      some r8)=some (if d * e=0 then ro none else ro (chk (mkRat (x * e+y * d) (d * e)))):=by
    intro x y d e hx hy hd he
    have h1:=zfX hx he
    have h2:=zfX hy hd
    have h3:=zfX hd he
    rw[zc0 (by omega) (by omega),Option.bind_some,zc1 _ (by omega),Option.bind_some,zc0 (by omega) (by omega),Option.bind_some,zc1 _ (by omega),Option.bind_some,zxD,zxD]
    have h4:=zlN hx he
    have h5:=zlN hy hd
    have h6:=zlO h4 h5
    rw[zop (by omega) (by omega),Option.bind_some,zc0 (by omega) (by omega),Option.bind_some]
    show ((zaL (decide (x * e+y * d < 0)) (dg (x * e+y * d).natAbs) (dg (d * e))).bind fun r8=>some r8)=_
    by_cases h0:d * e=0
    · rw[h0,if_pos rfl,zhQ (by omega)]; rfl
    · rw[if_neg h0,ziw h0 (by omega) (by omega),Option.bind_some,zos]
  cases o with
  | none =>
    obtain ⟨y,d,e1,e2,e3⟩:∃ (y:Int) (d:Nat),(ro p).neg=decide (y < 0)∧(ro p).mag=dg y.natAbs∧(ro p).den=dg d:=by
      cases p with
      | none=>exact ⟨0,0,rfl,zaE.symm,zaE.symm⟩
      | some r=>exact ⟨_,_,rfl,rfl,rfl⟩
    rw[e2] at hpm; rw[e3] at hpd
    have hl:=long 0 y 0 d (by rw[show (0:Int).natAbs=0 from rfl,zaE]; simp) hpm (by rw[zaE]; simp) hpd
    rw[Nat.zero_mul,if_pos rfl] at hl
    unfold zaz
    rw[zfY,zfe,Option.bind_some,decide_eq_false (by omega),cond_false,e1,e2,e3]
    exact hl
  | some q =>
    have fq:=ho q rfl
    cases p with
    | none =>
      have hl:=long q.num 0 q.den 0 fq.1 (by rw[show (0:Int).natAbs=0 from rfl,zaE]; simp) fq.2 (by rw[zaE]; simp)
      rw[Nat.mul_zero,if_pos rfl] at hl
      unfold zaz
      rw[show (ro (some q)).den=dg q.den from rfl,zfe,Option.bind_some,zfY,zfe]
      cases decide (q.den=1) with
      | false=>exact hl
      | true=>simp only[cond_true,Option.bind_some,decide_eq_false (show ¬ (0:Nat)=1 by omega),cond_false]; exact hl
    | some r =>
      have fr:=hp r rfl
      have hl:=long q.num r.num q.den r.den fq.1 fr.1 fq.2 fr.2
      rw[if_neg (Nat.mul_ne_zero q.den_nz r.den_nz),zDZ] at hl
      unfold zaz
      rw[show (ro (some q)).den=dg q.den from rfl,zfe,Option.bind_some,show (ro (some r)).den=dg r.den from rfl,zfe]
      by_cases hq1:q.den=1
      · rw [decide_eq_true hq1,cond_true,Option.bind_some]
        by_cases hr1:r.den=1
        · rw[decide_eq_true hr1,cond_true]
          show ((zc4 (bg q.num) (bg r.num)).bind _)=_
          have h6:=zlO fq.1 fr.1
          rw[zop (by have:=fq.1; omega) (by have:=fr.1; omega),Option.bind_some,← zeR]
          show ((zaL (decide (q.num+r.num < 0)) (dg (q.num+r.num).natAbs) (dg 1)).bind fun r8=>some r8)=_
          have:=zoM q r (by rw[hq1,hr1])
          rw[ziw (by omega) (by omega) (by rw[zeR]; simp),Option.bind_some,zos]
          rw[hq1] at this
          rw[this]; rfl
        · rw[decide_eq_false hr1,cond_false]; exact hl
      · rw[decide_eq_false hq1,cond_false]; exact hl
end Go.Di
namespace Go.Di
def Good (r:Rt):Prop:=∃ q:Rat,Fit q∧r=rq q
theorem Good.ro {r:Rt} (h:Good r):∃ q:Rat,Fit q∧r=ro (some q):=h
theorem zPd {p q:Rat} (h:rq p=rq q):p=q:=by
 unfold rq at h
 injection h with h1 h2 h3
 have h4:=zF0 h2
 have h5:=zF0 h3
 have h6:p.num=q.num:=by
  have:=zos p.num
  rw[h1,h4,zos] at this; exact this.symm
 exact Rat.ext h6 h5
def zOv (r:Rt):Prop:=zgL r.mag∧(r.mag≠[]∨r.neg=false)∧zgL r.den∧r.den≠[]∧r.mag.length≤24∧r.den.length≤24∧Nat.gcd (nv r.den).toNat (nv r.mag).toNat=1
theorem zhu {r:Rt}:Good r↔zOv r:=by
 constructor
 ·rintro ⟨q,hf,rfl⟩
  have h24:=hf.1
  have h24':=hf.2
  refine ⟨⟨zb7 _,by show (dg q.num.natAbs).length≤60; omega⟩,?_,⟨zb7 _,by show (dg q.den).length≤60; omega⟩,fun h=>q.den_nz (zfq.1 h),h24,h24',?_⟩
  ·by_cases h:q.num < 0
   ·left; intro e; have:=zfq.1 e; omega
   ·right; exact decide_eq_false h
  ·show Nat.gcd (nv (dg q.den)).toNat (nv (dg q.num.natAbs)).toNat=1
   rw[zcA,zcA,Int.toNat_natCast,Int.toNat_natCast,Nat.gcd_comm]; exact q.reduced
 ·rintro ⟨⟨h1,_⟩,h2,⟨h3,_⟩,h4,h5,h6,h7⟩
  obtain ⟨neg,mag,den⟩:=r
  simp only at h1 h2 h3 h4 h5 h6 h7
  have e1:=h1.dg
  have e2:=h3.dg
  generalize (nv mag).toNat=m at *
  generalize (nv den).toNat=d at *
  subst e1; subst e2
  have hd:d≠0:=fun h=>h4 (by rw[h,zaE])
  let q:Rat:=Rat.mk' (sg neg m) d hd (by rw[zjh]; show Nat.gcd m d=1; rw[Nat.gcd_comm]; exact h7)
  refine ⟨q,⟨by show (dg (sg neg m).natAbs).length≤24; rw[zjh]; exact h5,h6⟩,?_⟩
  show _=(⟨decide (sg neg m < 0),dg (sg neg m).natAbs,dg d⟩:Rt)
  rw[zjh]
  by_cases hm:m=0
  ·subst hm
   rcases h2 with h2 | h2
   ·exact absurd zaE h2
   ·rw[h2]; rfl
  ·rw[zxE hm]
theorem zSA {a:List Int}:((a.length:Int)==0)=pB (a=[]):=by
 rw[Bool.eq_iff_iff,pB_iff]; simp
theorem zSz {a:List Int}:decide ((a.length:Int) > 0)=pB (a≠[]):=by
 rw[Bool.eq_iff_iff,pB_iff]; simp[List.length_pos_iff]
theorem zDL {p:Prop} [Decidable p]:pB p=decide p:=by rw[Bool.eq_iff_iff,pB_iff,decide_eq_true_iff]
theorem zL9 {d m:Nat} {x:Option (List Int)} (h:x=some (dg (Nat.gcd d m))) {k:List Int→Option Bool} (hk:∀ g:Nat,k (dg g)=some (decide (g=1))) :
  (x.bind fun r3=>(k r3).bind fun r4=>some r4)=some (decide (Nat.gcd d m=1)):=by
 rw[h,Option.bind_some,hk]; rfl
theorem impl_ratOk {r:Rt} (h:r.fit):zaI r=some (pB (Good r)):=by
  rw[zlT zhu]
  unfold zaI zcR
  rw[impl_natOk h.1,impl_natOk h.2,zSz,zSA,zHu,zHu]
  simp only[Option.bind_some]
  unfold zOv
  by_cases h1:zgL r.mag
  · rw [pB_iff.2 h1,cond_true]
    by_cases h2:r.mag≠[]∨r.neg=false
    · have hb : cond (pB (r.mag≠[])) (some true) (some (!r.neg))=some true:=by
        rcases h2 with h2 | h2
        · rw[pB_iff.2 h2]; rfl
        · rw[h2]; cases pB (r.mag≠[])<;>rfl
      rw[hb]
      simp only[Option.bind_some,Bool.not_true,cond_false]
      by_cases h3:zgL r.den
      · rw [pB_iff.2 h3]
        simp only[Bool.not_true,cond_false]
        by_cases h4:r.den=[]
        · rw[pB_iff.2 h4,cond_true]; symm; rw[pB_not.2 (fun k=>k.2.2.2.1 h4)]
        · rw [pB_not.2 h4,cond_false]
          by_cases h5:r.mag.length≤24
          · rw [decide_eq_true h5]
            simp only[Bool.not_true,cond_false]
            by_cases h6:r.den.length≤24
            · rw [decide_eq_true h6]
              simp only[Bool.not_true,cond_false]
              have e1:=h1.1.dg
              have e2:=h3.1.dg
              have hd0:0 < (nv r.den).toNat:=by
                rcases Nat.eq_zero_or_pos (nv r.den).toNat with h | h
                · rw[h,zaE] at e2; exact absurd e2 h4
                · exact h
              have hg:=impl_gcd (m:=(nv r.den).toNat) (n:=(nv r.mag).toNat) (by rw[← e2]; omega) (by rw[← e1]; omega) hd0
              rw[← e2,← e1] at hg
              rw[zL9 hg zqE,← zDL]
              congr 1
              exact zlT ⟨fun h=>⟨h1,h2,h3,h4,h5,h6,h⟩,fun h=>h.2.2.2.2.2.2⟩
            · rw[decide_eq_false h6]; symm; rw[pB_not.2 (fun k=>h6 k.2.2.2.2.2.1)]; rfl
          · rw[decide_eq_false h5]; symm; rw[pB_not.2 (fun k=>h5 k.2.2.2.2.1)]; rfl
      · rw[pB_not.2 h3]; symm; rw[pB_not.2 (fun k=>h3 k.2.2.1)]; rfl
    · have hb:cond (pB (r.mag≠[])) (some true) (some (!r.neg))=some false:=by
        have h3:¬ r.mag≠[]:=fun h=>h2 (.inl h)
        have h4:r.neg=true:=by
          cases hn:r.neg with
          | true=>rfl
          | false=>exact absurd (.inr hn) h2
        rw[pB_not.2 h3,h4]; rfl
      rw[hb]; symm; rw[pB_not.2 (fun k=>h2 k.2.1)]; rfl
  · rw[pB_not.2 h1]; symm; rw[pB_not.2 (fun k=>h1 k.1)]; rfl
theorem spec_ratOk {r:Rt} (h:r.fit):za5 r=some (pB (Good r)):=by
  rw[zlT zhu]
  unfold za5 zbv
  rw[spec_natOk h.1,spec_natOk h.2,zSz,zSA,zHu,zHu]
  simp only[Option.bind_some]
  unfold zOv
  by_cases h1:zgL r.mag
  · rw [pB_iff.2 h1,cond_true]
    by_cases h2:r.mag≠[]∨r.neg=false
    · have hb : cond (!r.neg) (some true) (some (pB (r.mag≠[])))=some true:=by
        rcases h2 with h2 | h2
        · rw[pB_iff.2 h2]; cases r.neg<;>rfl
        · rw[h2]; rfl
      rw[hb]
      simp only[Option.bind_some,Bool.not_true,cond_false]
      by_cases h3:zgL r.den
      · rw [pB_iff.2 h3]
        simp only[Bool.not_true,cond_false]
        by_cases h4:r.den=[]
        · rw[pB_iff.2 h4,cond_true]; symm; rw[pB_not.2 (fun k=>k.2.2.2.1 h4)]
        · rw [pB_not.2 h4,cond_false]
          by_cases h6:r.den.length≤24
          · rw [decide_eq_true h6]
            simp only[Bool.not_true,cond_false]
            by_cases h5:r.mag.length≤24
            · rw[decide_eq_true h5]
              simp only[Bool.not_true,cond_false]
              have e1:=h1.1.dg
              have e2:=h3.1.dg
              have hg:=spec_gcd (m:=(nv r.mag).toNat) (n:=(nv r.den).toNat) (by rw[← e1]; omega) (by rw[← e2]; omega)
              rw[← e2,← e1] at hg
              rw[zL9 hg zfe,← zDL]
              congr 1
              exact zlT ⟨fun h=>⟨h1,h2,h3,h4,h5,h6,by rw[Nat.gcd_comm]; exact h⟩,fun h=>by rw[Nat.gcd_comm]; exact h.2.2.2.2.2.2⟩
            · rw[decide_eq_false h5]; symm; rw[pB_not.2 (fun k=>h5 k.2.2.2.2.1)]; rfl
          · rw[decide_eq_false h6]; symm; rw[pB_not.2 (fun k=>h6 k.2.2.2.2.2.1)]; rfl
      · rw[pB_not.2 h3]; symm; rw[pB_not.2 (fun k=>h3 k.2.2.1)]; rfl
    · have hb:cond (!r.neg) (some true) (some (pB (r.mag≠[])))=some false:=by
        have h3:¬ r.mag≠[]:=fun h=>h2 (.inl h)
        have h4:r.neg=true:=by
          cases hn:r.neg with
          | true=>rfl
          | false=>exact absurd (.inr hn) h2
        rw[pB_not.2 h3,h4]; rfl
      rw[hb]; symm; rw[pB_not.2 (fun k=>h2 k.2.1)]; rfl
  · rw[pB_not.2 h1]; symm; rw[pB_not.2 (fun k=>h1 k.1)]; rfl
theorem zhB {q:Rat} (h:Fit q):pB (Good (rq q))=true:=pB_iff.2 ⟨q,h,rfl⟩
theorem zFQ {o:Option Rat} (h:Oks o):pB (Good (ro o))=o.isSome:=by
  cases o with
  | none =>
    rw[Option.isSome_none,pB_not]
    rintro ⟨q,_,hq⟩
    have:=congrArg Rt.den hq
    exact q.den_nz (zfq.1 (show dg q.den=[] from this.symm))
  | some q=>rw[Option.isSome_some]; exact zhB (h q rfl)
theorem zyf {o:Option Rat} (h:Oks o):zaI (ro o)=some o.isSome:=by rw[impl_ratOk (zc2 h),zFQ h]
theorem znU {o:Option Rat} (h:Oks o):za5 (ro o)=some o.isSome:=by rw[spec_ratOk (zc2 h),zFQ h]
/-! ### Whole numbers -/
theorem zqF {n:Int} (h1 : -9223372036854775808≤n) (h2:n≤9223372036854775807):zev n=some (bg n):=by
 unfold zev
 by_cases h:n ≥ 0
 ·rw[decide_eq_true h,cond_true,zh4 h2,Option.bind_some,zb2,Option.bind_some]
  congr 2
  simp only[sg,cond_false]; omega
 ·rw[decide_eq_false h,cond_false,wrap_i64 (n:=n+1) (by omega) (by omega),wrap_i64 (n:=0 - (n+1)) (by omega) (by omega),zh4 (by omega),Option.bind_some,← zeR]
  have hs:=zeS (show (0 - (n+1)).toNat≤9223372036854775807 by omega)
  rw[zn2 (by omega) (by rw[zeR]; simp),Option.bind_some,zb2,Option.bind_some]
  congr 2
  simp only[sg,cond_true]; omega
theorem zPl:([854775808,223372036,9]:List Int)=dg 9223372036854775808:=by
 refine zBw ⟨fun d hd=>?_,by simp[zpH]⟩ (by simp[nv])
 simp at hd
 omega
theorem zmt {n:Int} (h1 : -9223372036854775808≤n) (h2:n≤9223372036854775807):zdz n=some (bg n):=by
 unfold zdz
 by_cases h:n = -9223372036854775808
 ·have hb:(n == -9223372036854775808)=true:=by rw[beq_iff_eq]; exact h
  obtain ⟨K,hK,hKv⟩:∃ K:Nat,([854775808,223372036,9]:List Int)=dg K∧K=n.natAbs:=⟨_,zPl,by omega⟩
  have hl:(dg K).length≤60:=by rw[← hK]; simp
  rw[hb,cond_true,hK,zc1 _ hl,Option.bind_some]
  congr 2
  simp only[sg,cond_true]; omega
 ·have hb:(n == -9223372036854775808)=false:=by rw[beq_eq_false_iff_ne]; exact h
  rw[hb,cond_false]
  by_cases h0:n < 0
  ·rw[decide_eq_true h0,cond_true,wrap_i64 (n:=0 - n) (by omega) (by omega),zez (by omega),Option.bind_some]
   have hs:=zeS (show (0 - n).toNat≤9223372036854775807 by omega)
   rw[zc1 _ (by omega),Option.bind_some]
   congr 2
   simp only[sg,cond_true]; omega
  ·rw[decide_eq_false h0,cond_false,zez h2,Option.bind_some]
   have hs:=zeS (show n.toNat≤9223372036854775807 by omega)
   rw[zc1 _ (by omega),Option.bind_some]
   congr 2
   simp only[sg,cond_false]; omega
theorem zoU {n:Int} (h1 : -9223372036854775808≤n) (h2:n≤9223372036854775807):(dg n.natAbs).length≤3:=zgn.2 (by simp[bp]; omega)
theorem zo5 {n:Int} (h1 : -9223372036854775808≤n) (h2:n≤9223372036854775807):Fit (n:Rat):=by
 unfold Fit
 rw[Rat.num_intCast,Rat.den_intCast,zeR]
 exact ⟨by have:=zoU h1 h2; omega,by simp⟩
theorem zPc (n:Int):rq (n:Rat)=⟨(bg n).neg,(bg n).mag,[1]⟩:=by
 unfold rq bg
 rw[Rat.num_intCast,Rat.den_intCast,zeR]
theorem zz8 {z:Int} (h:(dg z.natAbs).length≤60):zgL (bg z).mag:=⟨zb7 _,h⟩
theorem ztG {z:Int} (h:(dg z.natAbs).length≤60):zcR (bg z)=some true:=by
 unfold zcR
 rw[impl_natOk (by show (dg z.natAbs).length≤1048576; omega),pB_iff.2 (zz8 h),Option.bind_some,cond_true]
 show cond (decide (((dg z.natAbs).length:Int) > 0)) (some true) (some (!decide (z < 0)))=some true
 rw[zh8]
 by_cases h0:z.natAbs≠0
 ·rw[decide_eq_true h0]; rfl
 ·rw[decide_eq_false h0,decide_eq_false (by omega)]; rfl
theorem zsM {z:Int} (h:(dg z.natAbs).length≤60):zbv (bg z)=some true:=by
 unfold zbv
 rw[spec_natOk (by show (dg z.natAbs).length≤1048576; omega),pB_iff.2 (zz8 h),Option.bind_some,cond_true]
 show cond (!decide (z < 0)) (some true) (some (decide (((dg z.natAbs).length:Int) > 0)))=some true
 rw[zh8]
 by_cases h0:z < 0
 ·rw[decide_eq_true (show z.natAbs≠0 by omega)]; cases !decide (z < 0)<;>rfl
 ·rw[decide_eq_false h0]; rfl
theorem zjs {r:Rt} (h:r.mag.length≤1048576∧r.den.length≤1048576):zd5 r=some r:=by
 unfold zd5
 rw[zha (by omega),Option.bind_some,zha (by omega),Option.bind_some]
theorem znw {r:Rt} (h:r.mag.length≤1048576∧r.den.length≤1048576):zgh r=some r:=by
 unfold zgh
 rw[room (by omega),Option.bind_some,room (by omega),Option.bind_some]
theorem zC1 (x y:Int) (hy:y≠0):mkRat (sg (!(decide (x < 0)==decide (y < 0))) x.natAbs) y.natAbs=(x:Rat) / (y:Rat):=by
 have hyr:(y:Rat)≠0:=by intro h; exact hy (Rat.intCast_inj.1 h)
 have hd:=zs8 (x:Rat) (y:Rat) hyr
 rw[Rat.num_intCast,Rat.num_intCast,Rat.den_intCast,Rat.den_intCast,Nat.one_mul] at hd
 rw[← hd]
 congr 1
 by_cases h1:x < 0<;>by_cases h2:y < 0
 ·rw[decide_eq_true h1,decide_eq_true h2]; simp only[sg,beq_self_eq_true,Bool.not_true,cond_true,cond_false]; omega
 ·rw[decide_eq_true h1,decide_eq_false h2]; simp[sg]; omega
 ·rw[decide_eq_false h1,decide_eq_true h2]; simp[sg]; omega
 ·rw[decide_eq_false h1,decide_eq_false h2]; simp only[sg,beq_self_eq_true,Bool.not_true,cond_false]; omega
theorem zFL {x y:Int} (hx:(dg x.natAbs).length≤60) (hy:(dg y.natAbs).length≤60) (h0:y≠0):zgj (bg x) (bg y)=some (ro (chk ((x:Rat) / (y:Rat)))):=by
 unfold zgj
 rw[ztG hx,Option.bind_some,ztG hy,Option.bind_some]
 simp only[Bool.not_true,cond_false]
 show cond (((dg y.natAbs).length:Int)==0) _ ((zgP (!(decide (x < 0)==decide (y < 0))) (dg x.natAbs)).bind fun r2=>(zgQ r2 (dg y.natAbs)).bind _)=_
 rw[zgy,decide_eq_false (show ¬ y.natAbs=0 by omega),cond_false,ztx,Option.bind_some,ztA (by omega) (by rw[zjh]; omega) (by omega),Option.bind_some,zC1 x y h0,zjs (zc2 (zmw _)),Option.bind_some]
theorem zsH {x y:Int} (hx:(dg x.natAbs).length≤60) (hy:(dg y.natAbs).length≤60) (h0:y≠0):zgi (bg x) (bg y)=some (ro (chk ((x:Rat) / (y:Rat)))):=by
 unfold zgi
 rw[zsM hx,Option.bind_some,zsM hy,Option.bind_some]
 simp only[Bool.not_true,cond_false]
 show ((zaL (!(decide (x < 0)==decide (y < 0))) (dg x.natAbs) (dg y.natAbs)).bind _)=_
 rw[ziw (by omega) (by omega) (by omega),Option.bind_some,zC1 x y h0]
theorem zqC {x y:Int} (h1 : -9223372036854775808≤x) (h2:x≤9223372036854775807) (h3 : -9223372036854775808≤y) (h4:y≤9223372036854775807) (h0:y≠0):zgu x y=some (ro (chk ((x:Rat) / (y:Rat)))):=by
 unfold zgu
 have:=zoU h1 h2
 have:=zoU h3 h4
 rw[zqF h1 h2,Option.bind_some,zqF h3 h4,Option.bind_some,zFL (by omega) (by omega) h0,Option.bind_some]
theorem zp4 {x y:Int} (h1 : -9223372036854775808≤x) (h2:x≤9223372036854775807) (h3 : -9223372036854775808≤y) (h4:y≤9223372036854775807) (h0:y≠0):zbC x y=some (ro (chk ((x:Rat) / (y:Rat)))):=by
 unfold zbC
 have:=zoU h1 h2
 have:=zoU h3 h4
 rw[zmt h1 h2,Option.bind_some,zmt h3 h4,Option.bind_some,zsH (by omega) (by omega) h0,Option.bind_some]
theorem zwP {n:Int} (h1 : -9223372036854775808≤n) (h2:n≤9223372036854775807):zeO n=some (ro (some (n:Rat))):=by
 unfold zeO
 rw[zqC h1 h2 (by omega) (by omega) (by omega),Option.bind_some]
 have:(n:Rat) / ((1:Int):Rat)=(n:Rat):=by
  rw[Rat.intCast_one,Rat.div_def,Rat.inv_eq_of_mul_eq_one (a:=1) (b:=1) (Rat.mul_one 1),Rat.mul_one]
 rw[this,ziL (zo5 h1 h2)]
theorem zmA {n:Int} (h1 : -9223372036854775808≤n) (h2:n≤9223372036854775807):zc7 n=some (ro (some (n:Rat))):=by
 unfold zc7
 rw[zwP h1 h2]; rfl
theorem zej {n:Int} (h1 : -9223372036854775808≤n) (h2:n≤9223372036854775807):za2 n=some (ro (some (n:Rat))):=by
 unfold za2
 rw[zmt h1 h2,Option.bind_some]
 exact congrArg some (zPc n).symm
end Go.Di
namespace Go.Di
/-! ### Names -/
def cb (s:ByteArray) (i:Nat):Int:=((s.data[i]?).map fun b=>(b.toNat:Int)).getD 0
theorem znS {s:ByteArray} {i:Nat} (h:i < s.size):zeh s (i:Int)=some (cb s i):=by
 have h':i < s.data.size:=h
 unfold zeh cb
 rw[if_pos (by omega),Int.toNat_natCast,Array.getElem?_eq_getElem h']; rfl
def zNa (b:Int):Bool:=decide (97≤b) && decide (b≤122)
def ztU (b:Int):Bool:=decide (48≤b) && decide (b≤57)
def nmP (s:ByteArray) (i:Nat):Bool:=zNa (cb s i) || (decide (i≠0) && ztU (cb s i))
def nmQ (s:ByteArray) (i:Nat):Bool:=zNa (cb s i) || ztU (cb s i)
def nameB (s:ByteArray):Bool:=decide (1≤s.size) && (decide (s.size≤8) && (List.range s.size).all (nmP s))
theorem zqr (b c:Int):decide (b < c)=!decide (c≤b):=by rw[Bool.eq_iff_iff]; simp
theorem zyh (b c:Int):decide (b > c)=!decide (b≤c):=by rw[Bool.eq_iff_iff]; simp
theorem zP6 (b c:Int):decide (b ≥ c)=decide (c≤b):=rfl
theorem zPk {p:Prop} [Decidable p]:decide (¬ p)=!decide p:=by by_cases h:p<;>simp[h]
theorem znR {i n:Nat} (h:i < n) (hn:n≤4611686018427387904):IntKind.i64.wrap ((i:Int)+1)=((i+1:Nat):Int):=by
 rw[wrap_i64 (by omega) (by omega)]; simp
theorem zvB {s:ByteArray} (h:s.size≤1048576):ziY s=some (nameB s):=by
 unfold ziY zjP
 have key:=all_loopE (S:=zfw) (fun i=>(s,(i:Int),())) s.size (nmP s) (s,()) (fun i hi=>by
  have hw:=znR hi (by omega)
  simp only[zfw,dlt hi,cond_true,znS hi,Option.bind_some,hw,nmP,zNa,ztU]
  have h0:((i:Int)==0)=decide (i=0):=by rw[Bool.eq_iff_iff]; simp
  rw[h0,zqr,zyh,zP6,show decide (i≠0)=!decide (i=0) from zPk]
  generalize cb s i=b
  cases decide (97≤b)<;>cases decide (b≤122)<;>cases decide (i=0)<;>cases decide (48≤b)<;>cases decide (b≤57)<;>rfl) (by simp[zfw])
 rw[show ((0:Int))=((0:Nat):Int) from rfl,key]
 unfold nameB zaX
 have e1:decide ((s.size:Int) ≥ 1)=decide (1≤s.size):=by rw[Bool.eq_iff_iff]; simp; omega
 have e2:decide ((s.size:Int)≤8)=decide (s.size≤8):=by rw[Bool.eq_iff_iff]; simp; omega
 cases hall:(List.range s.size).all (nmP s) with
 | true=>simp only[cond_true,Option.bind_some,e1,e2]; cases decide (1≤s.size)<;>cases decide (s.size≤8)<;>rfl
 | false=>simp only[cond_false,Option.bind_some]; cases decide (1≤s.size)<;>cases decide (s.size≤8)<;>rfl
theorem impl_isName {s:ByteArray}:zgS s=some (nameB s):=by
  unfold zgS nameB
  by_cases h1:1≤s.size
  · rw [decide_eq_false (show ¬ (s.size:Int) < 1 by omega),cond_false,decide_eq_true h1]
    by_cases h2:s.size≤8
    · rw [decide_eq_false (show ¬ (s.size:Int) > 8 by omega),cond_false,decide_eq_true h2,show ((0:Int))=((0:Nat):Int) from rfl,znS (show 0 < s.size by omega)]
      simp only[Option.bind_some]
      unfold zjX
      have key:=all_loopE (S:=zdw) (fun i=>(s,(i:Int),())) s.size (nmQ s) () (fun i hi=>by
        have hw:=znR hi (by omega)
        simp only[zdw,dlt hi,cond_true,znS hi,Option.bind_some,hw,nmQ,zNa,ztU]
        rw[zqr,zqr,zyh,zyh]
        generalize cb s i=b
        cases decide (97≤b)<;>cases decide (b≤122)<;>cases decide (48≤b)<;>cases decide (b≤57)<;>rfl) (by simp[zdw])
      rw[key]
      have hall:(zNa (cb s 0) && (List.range s.size).all (nmQ s))=(List.range s.size).all (nmP s):=by
        rw[Bool.eq_iff_iff,Bool.and_eq_true,List.all_eq_true,List.all_eq_true]
        constructor
        · rintro ⟨k1,k2⟩ i hi
          have:=k2 i hi
          unfold nmQ at this
          unfold nmP
          by_cases h0:i=0
          · subst h0; rw[k1]; rfl
          · rw[decide_eq_true h0,Bool.true_and]; exact this
        · intro k
          refine ⟨?_,fun i hi=>?_⟩
          · have:=k 0 (List.mem_range.2 (by omega))
            unfold nmP at this
            simpa using this
          · have:=k i hi
            unfold nmP at this
            unfold nmQ
            rw[Bool.or_eq_true] at *
            rcases this with h | h
            · exact .inl h
            · rw[Bool.and_eq_true] at h; exact .inr h.2
      rw[← hall]
      unfold zNa
      by_cases a1:cb s 0 < 97
      · rw[decide_eq_true a1,decide_eq_false (show ¬ 97≤cb s 0 by omega)]; rfl
      · rw [decide_eq_false a1,decide_eq_true (show 97≤cb s 0 by omega),cond_false]
        by_cases a2:cb s 0 > 122
        · rw[decide_eq_true a2,decide_eq_false (show ¬ cb s 0≤122 by omega)]; rfl
        · rw[decide_eq_false a2,decide_eq_true (show cb s 0≤122 by omega),cond_false]
          cases (List.range s.size).all (nmQ s)<;>rfl
    · rw[decide_eq_true (show (s.size:Int) > 8 by omega),decide_eq_false h2]; rfl
  · rw[decide_eq_true (show (s.size:Int) < 1 by omega),decide_eq_false h1]; rfl
theorem zj7 {s:ByteArray} (h:nameB s=true):s.size≤8:=by
 unfold nameB at h
 simp only[Bool.and_eq_true,decide_eq_true_eq] at h
 exact h.2.1
/-! ### Stations,matrices -/
def zvw (s:Sta) (plane:Bool):Bool:=nameB s.name && (pB (Good s.x) && (pB (Good s.y) && (plane || ((s.y.mag.length:Int)==0))))
theorem zAm {s:Sta} (plane:Bool) (h:s.fit) (hn:s.name.size≤1048576):zgz s plane=some (zvw s plane):=by
 unfold zgz zvw
 refine zgd (zvB hn) (zgd (spec_ratOk h.1) (zgd (spec_ratOk h.2) ?_))
 cases plane<;>rfl
theorem zBl {s:Sta} (plane:Bool) (h:s.fit):ze2 s plane=some (zvw s plane):=by
 unfold ze2 zvw
 refine zgd impl_isName (zgd (impl_ratOk h.1) (zgd (impl_ratOk h.2) ?_))
 cases plane<;>rfl
def inB (n lo hi:Int):Bool:=decide (n ≥ lo) && decide (n≤hi)
theorem zvC (n lo hi:Int):zaX n lo hi=some (inB n lo hi):=by
 unfold zaX inB; cases decide (n ≥ lo)<;>rfl
/-! ### Networks -/
def Sta.zh7 (s:Sta):Prop:=s.fit∧s.name.size≤1048576
theorem zrN {l:List Sta} (h:zg8 Sta.zh7 l):zg8 Sta.fit l:=⟨h.1,fun x hx=>(h.2 x hx).1⟩
def zxZ (n:Net) (i:Nat):Bool:=match n.stations[i]? with
 | some s=>zvw s n.plane && (zaV n.stations s.name==(i:Int))
 | none=>true
def znX (n:Net):Bool:=decide (n.stations.length≤8) && (List.range n.stations.length).all (zxZ n)
theorem le8 {n:Nat}:decide ((n:Int) > 8)=!decide (n≤8):=by rw[Bool.eq_iff_iff]; simp; omega
theorem zp6 {n:Net} (h:zg8 Sta.zh7 n.stations):ze0 n=some (znX n):=by
 unfold ze0 znX zhy
 rw[le8]
 refine zuo ?_
 have key:=all_loopE (S:=zd9) (fun i=>(n.stations,(n.stations.length:Int),(i:Int),n.plane,n.stations,())) n.stations.length (zxZ n) () (fun i hi=>by
  have hf:=h.2 _ (List.getElem_mem hi)
  have he:zxZ n i=(zvw n.stations[i] n.plane && (zaV n.stations n.stations[i].name==(i:Int))):=by unfold zxZ; rw[List.getElem?_eq_getElem hi]
  simp only[zd9,dlt hi,cond_true,zaT hi,Option.bind_some,zAm n.plane hf.1 hf.2,zhC,zh5 (n:=⟨n.plane,n.stations⟩) (name:=n.stations[i].name) h.1,zbZ hi h.1,he]
  cases zvw n.stations[i] n.plane<;>simp only[Bool.not_true,Bool.not_false,cond_true,cond_false,Bool.true_and,Bool.false_and]
  rw[show (zaV n.stations n.stations[i].name != (i:Int))=!(zaV n.stations n.stations[i].name==(i:Int)) from rfl]
  cases (zaV n.stations n.stations[i].name==(i:Int))<;>rfl) (by simp[zd9])
 rw[show ((0:Int))=((0:Nat):Int) from rfl,key]
 cases (List.range n.stations.length).all (zxZ n)<;>rfl
theorem zqD {n:Net} (h:zg8 Sta.fit n.stations):zdZ n=some (znX n):=by
 unfold zdZ znX zhz
 rw[le8]
 refine zuo ?_
 have key:=all_loopE (S:=zcj) (fun i=>(n.stations,(n.stations.length:Int),(i:Int),n.plane,n.stations,())) n.stations.length (zxZ n) () (fun i hi=>by
  have hf:=h.2 _ (List.getElem_mem hi)
  have he:zxZ n i=(zvw n.stations[i] n.plane && (zaV n.stations n.stations[i].name==(i:Int))):=by unfold zxZ; rw[List.getElem?_eq_getElem hi]
  simp only[zcj,dlt hi,cond_true,zaT hi,Option.bind_some,zBl n.plane hf,zh5 (n:=⟨n.plane,n.stations⟩) (name:=n.stations[i].name) h.1,zbZ hi h.1,he]
  cases zvw n.stations[i] n.plane<;>simp only[Bool.not_true,Bool.not_false,cond_true,cond_false,Bool.true_and,Bool.false_and]
  rw[show (zaV n.stations n.stations[i].name != (i:Int))=!(zaV n.stations n.stations[i].name==(i:Int)) from rfl]
  cases (zaV n.stations n.stations[i].name==(i:Int))<;>rfl) (by simp[zcj])
 rw[show ((0:Int))=((0:Nat):Int) from rfl,key]
 cases (List.range n.stations.length).all (zxZ n)<;>rfl
end Go.Di
namespace Go.Di
def upto (k:Int) (n:Nat):List Int:=(List.range n).map fun (i:Nat)=>k+(i:Int)
@[simp] theorem zRr (k:Int) (n:Nat):(upto k n).length=n:=by simp[upto]
end Go.Di
namespace Go.Di
def zLV (a x:Nat):Nat:=if (x+a / x) / 2 < x then zLV a ((x+a / x) / 2) else x
termination_by x
def zrn (a:Nat):Nat:=if a=0 then 0 else zLV a (1000000000 ^ (((dg a).length+1) / 2))
theorem zxX {a:Nat} (ha:0 < a):∀ x,0 < x→0 < (x+a / x) / 2:=fun x hx=>by
 rcases Nat.lt_or_ge x 2 with h | h
 ·have:x=1:=by omega
  subst this
  rw[Nat.div_one]; omega
 ·exact Nat.div_pos (Nat.le_trans h (Nat.le_add_right _ _)) (by omega)
theorem zsD:([2]:List Int)=dg 2:=(zqL (n:=2) (by omega) (by omega)).symm
theorem zrf (h:Nat):List.replicate h (0:Int)++[1]=dg (1000000000 ^ h):=by
 refine zBw ⟨(Dig.zeros h).snoc (by omega),by simp[zpH]⟩ ?_
 rw[zg4,zlV,List.length_replicate]
 unfold bp
 simp
theorem zx6 {n k:Nat} (h:(dg n).length≤k):(dg (n / 2)).length≤k:=Nat.le_trans (zaG (Nat.div_le_self n 2)) h
theorem zxY {a x k:Nat} (ha:(dg a).length≤k) (hx:(dg x).length≤k):(dg (x+a / x)).length≤k+1:=zh0 hx (Nat.le_trans (zaG (Nat.div_le_self a x)) ha)
theorem zpI {a:Nat} (ha:0 < a) (hl:(dg a).length≤10000000):∀ x:Nat,0 < x→(dg x).length≤10000000→whileO zcW (dg a,dg x,())=some (dg (zLV a x),()):=by
  intro x
  induction x using Nat.strongRecOn with
  | _ x ih =>
    intro hx hxl
    have hq:=Nat.le_trans (zaG (Nat.div_le_self a x)) hl
    have hs:=zxY hl hxl
    have hy:=zx6 hs
    have hcmp:=zlL (zb7 ((x+a / x) / 2)) (zb7 x) (by omega)
    rw[zcA,zcA] at hcmp
    have h2:(dg 2).length≤100000000:=by rw[← zsD]; simp
    have step:zcW (dg a,dg x,())=cond (decide (((x:Nat):Int)≤(((x+a / x) / 2:Nat):Int))) (some (.inr (dg x,()))) (some (.inl (dg a,dg ((x+a / x) / 2),()))):=by
      simp only[zcW,zsD,zix (show (dg a).length≤100000000 by omega) (show (dg x).length≤100000000 by omega) hx,Option.bind_some,spec_add (show (dg x).length≤1073740000 by omega) (show (dg (a / x)).length≤1073740000 by omega),
        zfd (show (dg (x+a / x)).length≤1073741824 by omega),zix (show (dg (x+a / x)).length≤100000000 by omega) h2 (show 0 < 2 by omega),zfd (show (dg ((x+a / x) / 2)).length≤1073741824 by omega),zfd (show (dg x).length≤1073741824 by omega),hcmp,zsu,room (show (dg x).length≤1073741824 by omega)]
    rw[zLV]
    by_cases hlt:(x+a / x) / 2 < x
    · rw[if_pos hlt,za6 (by rw[step,decide_eq_false (by omega)]; rfl)]
      exact ih _ hlt (zxX ha x hx) (Nat.le_trans (zaG (Nat.le_of_lt hlt)) hxl)
    · rw[if_neg hlt]
      exact zaw (by rw[step,decide_eq_true (by omega)]; rfl)
theorem zpP {a:Nat} (ha:0 < a) (hl:(dg a).length≤10000000):∀ x:Nat,0 < x→(dg x).length≤10000000→whileO zgK (dg a,dg x,())=some (dg (zLV a x),()):=by
  intro x
  induction x using Nat.strongRecOn with
  | _ x ih =>
    intro hx hxl
    have hq:=Nat.le_trans (zaG (Nat.div_le_self a x)) hl
    have hs:=zxY hl hxl
    have hy:=zx6 hs
    have hcmp:=zrG (zb7 ((x+a / x) / 2)) (zb7 x) (by omega)
    rw[zcA,zcA] at hcmp
    have h2:(dg 2).length≤100000000:=by rw[← zsD]; simp
    have step:zgK (dg a,dg x,())=cond (decide (((x:Nat):Int)≤(((x+a / x) / 2:Nat):Int))) (some (.inr (dg x,()))) (some (.inl (dg a,dg ((x+a / x) / 2),()))):=by
      simp only[zgK,zsD,impl_div (show (dg a).length≤100000000 by omega) (show (dg x).length≤100000000 by omega) hx,Option.bind_some,zn2 (show (dg x).length≤1073740000 by omega) (show (dg (a / x)).length≤1073740000 by omega),
        impl_div (show (dg (x+a / x)).length≤100000000 by omega) h2 (show 0 < 2 by omega),hcmp,zsu]
    rw[zLV]
    by_cases hlt:(x+a / x) / 2 < x
    · rw[if_pos hlt,za6 (by rw[step,decide_eq_false (by omega)]; rfl)]
      exact ih _ hlt (zxX ha x hx) (Nat.le_trans (zaG (Nat.le_of_lt hlt)) hxl)
    · rw[if_neg hlt]
      exact zaw (by rw[step,decide_eq_true (by omega)]; rfl)
theorem zvQ (h:Nat):(dg (1000000000 ^ h)).length=h+1:=by rw[← zrf]; simp
theorem ztK {n:Nat} (h:n≤10000000):IntKind.i64.wrap ((IntKind.i64.wrap ((n:Int)+1)).tdiv 2)=(((n+1) / 2:Nat):Int):=by
 rw[wrap_i64 (n:=(n:Int)+1) (by omega) (by omega),Int.tdiv_eq_ediv_of_nonneg (by omega),wrap_i64 (by omega) (by omega)]
 omega
theorem zqd:zrn 0=0:=by unfold zrn; rw[if_pos rfl]
theorem zCR {a:Nat} (hl:(dg a).length≤1000000):zgg (dg a)=some (dg (zrn a)):=by
 unfold zgg
 rw[zgy]
 by_cases h0:a=0
 ·subst h0; rw[decide_eq_true rfl,cond_true,zqd,zaE]
 ·rw [decide_eq_false h0,cond_false]
  unfold zi6
  have hw:=ztK (n:=(dg a).length) (by omega)
  have key:=ze4 zcX (fun i=>(dg a,List.replicate i 0,())) (((dg a).length+1) / 2) (dg a,List.replicate (((dg a).length+1) / 2) 0,()) (fun i hi=>by
   have h1:decide (((List.replicate i (0:Int)).length:Int) < (((((dg a).length+1) / 2:Nat)):Int))=true:=by rw[List.length_replicate]; exact decide_eq_true (by omega)
   simp only[zcX,hw,h1,cond_true,room (show (List.replicate i (0:Int)).length+1≤1073741824 by simp; omega),Option.bind_some]
   rw[← List.replicate_succ']) (by
   have h1:decide (((List.replicate (((dg a).length+1) / 2) (0:Int)).length:Int) < (((((dg a).length+1) / 2:Nat)):Int))=false:=by rw[List.length_replicate]; exact decide_eq_false (by omega)
   simp only[zcX,hw,h1,cond_false])
  rw[List.replicate_zero] at key
  rw[key,Option.bind_some]
  simp only[]
  rw[room (by simp; omega),Option.bind_some,zrf]
  unfold zi5
  rw[zpI (by omega) (by omega) _ (Nat.pow_pos (by omega)) (by rw[zvQ]; omega),Option.bind_some]
  unfold zrn
  rw[if_neg h0]
theorem zFJ {a:Nat} (hl:(dg a).length≤1000000):zlF (dg a)=some (dg (zrn a)):=by
 unfold zlF
 rw[zgy]
 by_cases h0:a=0
 ·subst h0; rw[decide_eq_true rfl,cond_true,zqd,zaE]
 ·rw [decide_eq_false h0,cond_false,ztK (n:=(dg a).length) (by omega)]
  have e1:IntKind.i64.wrap (((((dg a).length+1) / 2:Nat):Int)+1)=((((dg a).length+1) / 2+1:Nat):Int):=by rw[wrap_i64 (by omega) (by omega)]; omega
  rw[e1,ziE (by omega),Option.bind_some,Int.toNat_natCast,List.length_replicate]
  have e2:IntKind.i64.wrap (((((dg a).length+1) / 2+1:Nat):Int) - 1)=((((dg a).length+1) / 2:Nat):Int):=by rw[wrap_i64 (by omega) (by omega)]; omega
  rw[e2,zaT (by simp),Option.bind_some,Int.toNat_natCast]
  have e3:(List.replicate (((dg a).length+1) / 2+1) (0:Int)).set (((dg a).length+1) / 2) 1=dg (1000000000 ^ (((dg a).length+1) / 2)):=by
   rw[← zrf,List.replicate_succ',List.set_append_right _ _ (by simp)]; simp
  rw[e3]
  unfold zmm
  rw[zpP (by omega) (by omega) _ (Nat.pow_pos (by omega)) (by rw[zvQ]; omega),Option.bind_some]
  unfold zrn
  rw[if_neg h0]
theorem zMT (a:Nat):∀ x,zLV a x≤x:=by
  intro x
  induction x using Nat.strongRecOn with
  | _ x ih =>
    rw[zLV]
    split
    · rename_i h; exact Nat.le_trans (ih _ h) (Nat.le_of_lt h)
    · exact Nat.le_refl _
theorem zxK {a:Nat}:(dg (zrn a)).length≤(dg a).length+1:=by
 unfold zrn
 split
 ·rename_i h; subst h; simp[zaE]
 ·have:=zaG (zMT a (1000000000 ^ (((dg a).length+1) / 2)))
  rw[zvQ] at this
  have hne:0 < (dg a).length:=by
   rename_i h
   exact List.length_pos_iff.2 (fun e=>h (zfq.1 e))
  omega
end Go.Di
namespace Go.Di
theorem zlM (o:Option Rat):zbK (ro o)=some o.isNone:=by unfold zbK; rw[zyv]
theorem zsJ {o p:Option Rat} (ho:Oks o) (hp:Oks p):zcs (ro o) (ro p)=some (ro (divO o p)):=by
  unfold zcs
  have hom:=zoy ho
  have hpm:=zoy hp
  have hod:=zlQ ho
  have hpd:=zlQ hp
  cases o with
  | none =>
    obtain ⟨m,d,e1,e2⟩:∃ m d:Nat,(ro p).mag=dg m∧(ro p).den=dg d:=by
      cases p with
      | none=>exact ⟨0,0,zaE.symm,zaE.symm⟩
      | some r=>exact ⟨_,_,rfl,rfl⟩
    rw[e1] at hpm; rw[e2] at hpd
    rw[zfY,e1,e2]
    rw[zc0 (by rw[zaE]; simp) (by omega),Option.bind_some,zc0 (by rw[zaE]; simp) (by omega),Option.bind_some,Nat.zero_mul,Nat.zero_mul,zhQ (by rw[zaE]; simp),Option.bind_some]; rfl
  | some q =>
    have fq:=ho q rfl
    cases p with
    | none =>
      rw[zfY]
      show ((zaA (dg q.num.natAbs) (dg 0)).bind fun r1=>(zaA (dg q.den) (dg 0)).bind _)=_
      rw[zc0 (by have:=fq.1; omega) (by rw[zaE]; simp),Option.bind_some,zc0 (by have:=fq.2; omega) (by rw[zaE]; simp),Option.bind_some,Nat.mul_zero,Nat.mul_zero,zhQ (by rw[zaE]; simp),Option.bind_some]; rfl
    | some r =>
      have fr:=hp r rfl
      have h3:=zfX fq.2 fr.1
      have h4:=zfX fq.1 fr.2
      show ((zaA (dg q.num.natAbs) (dg r.den)).bind fun r1=>(zaA (dg q.den) (dg r.num.natAbs)).bind fun r2=>(zaL (!(decide (q.num < 0)==decide (r.num < 0))) r1 r2).bind _)=_
      rw[zc0 (by have:=fq.1; omega) (by have:=fr.2; omega),Option.bind_some,zc0 (by have:=fq.2; omega) (by have:=fr.1; omega),Option.bind_some]
      by_cases h0:r=0
      · have:r.num.natAbs=0:=by rw[h0]; rfl
        rw[this,Nat.mul_zero,zhQ (by omega),Option.bind_some]
        simp[divO,h0]
      · have hn:r.num.natAbs≠0:=fun h=>h0 (Rat.num_eq_zero.1 (by omega))
        rw[ziw (Nat.mul_ne_zero q.den_nz hn) (by omega) (by omega),Option.bind_some]
        have hs:=zDp q.num (sg (decide (r.num < 0)) r.den)
        rw[zjh,zxE r.den_nz] at hs
        rw[hs,zs8 q r h0]
        simp[divO,h0]
/-! ### Signs -/
theorem zkb (q:Rat):za9 (rq q)=some (cond (decide (q.num < 0)) (-1) (cond (decide (q.num≠0)) 1 0)):=by
  unfold za9 rq
  simp only[zh8]
  cases decide (q.num < 0) with
  | true=>rfl
  | false =>
    simp only[cond_false]
    have:decide (q.num.natAbs≠0)=decide (q.num≠0):=by rw[Bool.eq_iff_iff]; simp
    rw[this]
    cases decide (q.num≠0)<;>rfl
/-! ### Rounded down -/
theorem ztM {n:Int} {d:Nat} (hd:0 < d) (hn:n < 0):sg true (n.natAbs / d+(if n.natAbs % d=0 then 0 else 1))=n / (d:Int):=by
 have h1:((n.natAbs:Nat):Int) = -n:=by omega
 have hdm:=Nat.div_add_mod n.natAbs d
 have hlt:=Nat.mod_lt n.natAbs hd
 generalize n.natAbs / d=q at *
 generalize n.natAbs % d=r at *
 have hz:(d:Int) * q+r = -n:=by rw[← h1]; exact_mod_cast hdm
 simp only[sg,cond_true]
 by_cases hr:r=0
 ·rw[if_pos hr]
  subst hr
  have:n=(d:Int) * (-(q:Int)):=by grind
  rw[this,Int.mul_ediv_cancel_left _ (by omega)]; omega
 ·rw[if_neg hr]
  have e:n=((d:Int) - r)+(d:Int) * (-(q:Int) - 1):=by grind
  rw[e,Int.add_mul_ediv_left _ _ (by omega),Int.ediv_eq_zero_of_lt (by omega) (by omega)]; omega
theorem ztL {n:Int} {d:Nat} (hn:¬ n < 0):sg false (n.natAbs / d)=n / (d:Int):=by
 have h1:n=((n.natAbs:Nat):Int):=by omega
 simp only[sg,cond_false]
 rw[Int.natCast_ediv,← h1]
theorem zBr {q:Rat} (hm:(dg q.num.natAbs).length≤24) (hd:(dg q.den).length≤24):∃ r,zfL ⟨decide (q.num < 0),dg q.num.natAbs⟩ (dg q.den)=some (bg (q.num / (q.den:Int)),r):=by
 unfold zfL
 have hpos:0 < q.den:=Nat.pos_of_ne_zero q.den_nz
 have hq:=Nat.le_trans (zaG (Nat.div_le_self q.num.natAbs q.den)) hm
 simp only[]
 rw[impl_div (by omega) (by omega) hpos,Option.bind_some]
 by_cases h:q.num < 0
 ·rw [decide_eq_true h]
  simp only[Bool.not_true,cond_false,zh8]
  have hf:=ztM hpos h
  by_cases hr:q.num.natAbs % q.den=0
  ·rw[decide_eq_false (by omega),cond_false,zb2,Option.bind_some]
   rw[if_pos hr,Nat.add_zero] at hf
   rw[hf]; exact ⟨_,rfl⟩
  ·rw[decide_eq_true (by omega),cond_true,← zeR,zn2 (by omega) (by rw[zeR]; simp),Option.bind_some,zrF (by omega) (Nat.le_of_lt (Nat.mod_lt _ hpos)),Option.bind_some,zb2,Option.bind_some]
   rw[if_neg hr] at hf
   rw[hf]; exact ⟨_,rfl⟩
 ·rw[decide_eq_false h]
  simp only[Bool.not_false,cond_true]
  rw[zb2,Option.bind_some,ztL h]; exact ⟨_,rfl⟩
theorem zj2 {m:Nat} (h:(dg m).length≤1073741824):zaN (dg m)=some (dg m):=by rw[zgZ h,zSq]
theorem zAs {q:Rat} (hm:(dg q.num.natAbs).length≤24) (hd:(dg q.den).length≤24):zfB (rq q)=some (bg (q.num / (q.den:Int))):=by
 unfold zfB rq
 have hpos:0 < q.den:=Nat.pos_of_ne_zero q.den_nz
 have hq:=Nat.le_trans (zaG (Nat.div_le_self q.num.natAbs q.den)) hm
 have hr:=Nat.le_trans (zaG (Nat.mod_le q.num.natAbs q.den)) hm
 simp only[]
 rw[zix (by omega) (by omega) hpos,Option.bind_some]
 simp only[]
 rw[zj2 (by omega),Option.bind_some]
 by_cases h:q.num < 0
 ·rw [decide_eq_true h]
  simp only[cond_true]
  have hf:=ztM hpos h
  rw[zj2 (by omega),Option.bind_some,zh8]
  by_cases hr0:q.num.natAbs % q.den=0
  ·rw[decide_eq_false (by omega),cond_false,zc1 _ (by omega),Option.bind_some]
   rw[if_pos hr0,Nat.add_zero] at hf
   rw[hf]
  ·have h1:(dg (q.num.natAbs / q.den+1)).length≤25:=zh0 hq (by rw[zeR]; simp)
   rw[decide_eq_true (by omega),cond_true,← zeR,spec_add (by omega) (by rw[zeR]; simp),Option.bind_some,zj2 (by omega),Option.bind_some,zc1 _ (by omega),Option.bind_some]
   rw[if_neg hr0] at hf
   rw[hf]
 ·rw[decide_eq_false h]
  simp only[cond_false]
  rw[zc1 _ (by omega),Option.bind_some,ztL h]
theorem zn4:Fit (((1:Int):Rat) / ((2:Int):Rat)):=by
 have h:=zs8 ((1:Int):Rat) ((2:Int):Rat) (by decide)
 rw[Rat.num_intCast,Rat.num_intCast,Rat.den_intCast,Rat.den_intCast] at h
 rw[← h]
 have e:sg (decide ((2:Int) < 0)) 1=1:=rfl
 rw[e,zFV _ (d:=1 * (2:Int).natAbs) (by decide)]
 have e1:((1:Int) * 1).natAbs=1:=rfl
 have e2:(1:Nat) * (2:Int).natAbs=2:=rfl
 rw[e1,e2,Nat.gcd_one_left,Nat.div_one,Nat.div_one,zeR,← zsD]; simp
def rtO (q:Rat) (n:Int):Option Rat:=(zmk (zk9 (some q) (some (n:Rat))) (some (((1:Int):Rat) / ((2:Int):Rat)))).bind fun x=>chk (mkRat (x.num / (x.den:Int)) n.toNat)
theorem zys {n:Int} {d:Nat} (hd:0 < d) (h:(dg n.natAbs).length≤24):(dg (n / (d:Int)).natAbs).length≤25:=by
 have hle:(n / (d:Int)).natAbs≤n.natAbs+1:=by
  have h1:=Int.mul_ediv_add_emod n (d:Int)
  have h2:=Int.emod_nonneg n (show (d:Int)≠0 by omega)
  have h3:=Int.emod_lt_of_pos n (show (0:Int) < d by omega)
  rcases Int.lt_or_le n 0 with hn | hn
  ·have h4:n / (d:Int) < 0:=Int.ediv_neg_of_neg_of_pos hn (by omega)
   have h5:n * (d:Int)≤n * 1:=Int.mul_le_mul_of_nonpos_left (by omega) (show (1:Int)≤d by omega)
   have h6:n≤n / (d:Int):=Int.le_ediv_of_mul_le (by omega) (by omega)
   omega
  ·have h4:=Int.ediv_nonneg hn (show (0:Int)≤d by omega)
   have h5:=Int.ediv_le_self (d:Int) hn
   omega
 exact Nat.le_trans (zaG hle) (zh0 h (by rw[zeR]; simp))
theorem zBm {q:Rat} (hq:Fit q) {n:Int} (h1:1≤n) (h2:n≤1000000):zbH (rq q) n=some (ro (rtO q n)):=by
  unfold zbH
  have hr:rq q=ro (some q):=rfl
  have fn:=zo5 (n:=n) (by omega) (by omega)
  rw[hr,zyf hq.ok,Option.bind_some,decide_eq_false (show ¬ n < 1 by omega),decide_eq_false (show ¬ n > 1000000 by omega)]
  simp only[Option.isSome_some,Bool.not_true,cond_false]
  rw[zmA (by omega) (by omega),Option.bind_some,zjr hq.ok fn.ok,Option.bind_some,zqC (by omega) (by omega) (by omega) (by omega) (by omega),ziL zn4,Option.bind_some,zl5 zfm zn4.ok,Option.bind_some,zel,Option.bind_some]
  unfold rtO
  have ok:=ziB (o:=zk9 (some q) (some (n:Rat))) (p:=some (((1:Int):Rat) / ((2:Int):Rat)))
  generalize zmk (zk9 (some q) (some (n:Rat))) (some (((1:Int):Rat) / ((2:Int):Rat)))=o at *
  cases o with
  | none=>rfl
  | some x =>
    have fx:=ok x rfl
    simp only[Option.isNone_some,cond_false,Option.bind_some]
    obtain ⟨r,hr⟩:=zBr fx.1 fx.2
    show ((zfL ⟨decide (x.num < 0),dg x.num.natAbs⟩ (dg x.den)).bind _)=_
    have hl:=zys (n:=x.num) (Nat.pos_of_ne_zero x.den_nz) fx.1
    have hs:=zeS (show n.toNat≤9223372036854775807 by omega)
    rw[hr,Option.bind_some]
    simp only[]
    rw[zh4 (by omega),Option.bind_some,ze7 (by omega) (by omega) (by omega),Option.bind_some]
theorem zAo {q:Rat} (hq:Fit q) {n:Int} (h1:1≤n) (h2:n≤1000000):zaY (rq q) n=some (ro (rtO q n)):=by
  unfold zaY zaX
  have hr:rq q=ro (some q):=rfl
  have fn:=zo5 (n:=n) (by omega) (by omega)
  rw[hr,znU hq.ok,Option.bind_some,decide_eq_true (show n ≥ 1 by omega),decide_eq_true (show n≤1000000 by omega)]
  simp only[Option.isSome_some,Bool.not_true,cond_false,cond_true,Option.bind_some]
  rw[zej (by omega) (by omega),Option.bind_some,zhP hq.ok fn.ok,Option.bind_some,zp4 (by omega) (by omega) (by omega) (by omega) (by omega),ziL zn4,Option.bind_some,spec_addO zfm zn4.ok,Option.bind_some,zlM,Option.bind_some]
  unfold rtO
  have ok:=ziB (o:=zk9 (some q) (some (n:Rat))) (p:=some (((1:Int):Rat) / ((2:Int):Rat)))
  generalize zmk (zk9 (some q) (some (n:Rat))) (some (((1:Int):Rat) / ((2:Int):Rat)))=o at *
  cases o with
  | none=>rfl
  | some x =>
    have fx:=ok x rfl
    simp only[Option.isNone_some,cond_false,Option.bind_some]
    have hl:=zys (n:=x.num) (Nat.pos_of_ne_zero x.den_nz) fx.1
    have hs:=zeS (show n.toNat≤9223372036854775807 by omega)
    rw[show ro (some x)=rq x from rfl,zAs fx.1 fx.2,Option.bind_some,zez (by omega),Option.bind_some]
    show ((zaL (decide (x.num / (x.den:Int) < 0)) (dg (x.num / (x.den:Int)).natAbs) (dg n.toNat)).bind _)=_
    rw[ziw (by omega) (by omega) (by omega),Option.bind_some,zos]
theorem round_both {r:Rt} (hr:r.fit) (n:Int):∃ o,Oks o∧zaY r n=some (ro o)∧zbH r n=some (ro o):=by
  by_cases hg:Good r
  · obtain ⟨q,hf,rfl⟩:=hg
    by_cases h1:1≤n
    · by_cases h2:n≤1000000
      · exact ⟨_,zhs fun _=>zmw _,zAo hf h1 h2,zBm hf h1 h2⟩
      · refine ⟨none,zeA,?_,?_⟩
        · unfold zaY zaX
          rw[spec_ratOk hr,zhB hf,decide_eq_true (show n ≥ 1 by omega),decide_eq_false h2]; rfl
        · unfold zbH
          rw[impl_ratOk hr,zhB hf,decide_eq_false (show ¬ n < 1 by omega),decide_eq_true (show n > 1000000 by omega)]; rfl
    · refine ⟨none,zeA,?_,?_⟩
      · unfold zaY zaX
        rw[spec_ratOk hr,zhB hf,decide_eq_false (show ¬ n ≥ 1 by omega)]; rfl
      · unfold zbH
        rw[impl_ratOk hr,zhB hf,decide_eq_true (show n < 1 by omega)]; rfl
  · refine ⟨none,zeA,?_,?_⟩
    · unfold zaY
      rw[spec_ratOk hr,pB_not.2 hg]; rfl
    · unfold zbH
      rw[impl_ratOk hr,pB_not.2 hg]; rfl
/-! ### Roots of fractions -/
theorem zP7 {q:Rat} (hq:Fit q) {k:Nat} (hk:0 < k) (h:Fit (q * ((k:Int):Rat) * ((k:Int):Rat))):Fit (q * ((k:Int):Rat)):=by
 -- the numerator grows, the denominator falls
 have mulk:∀ a:Rat,a * ((k:Int):Rat)=mkRat (a.num * k) a.den:=fun a=>by
  rw[← zDX,Rat.num_intCast,Rat.den_intCast,Nat.mul_one]
 have hden:(q * ((k:Int):Rat)).den≤q.den:=by
  rw[mulk,(zj8 _ q.den_nz).2]
  exact Nat.div_le_self _ _
 refine ⟨?_,Nat.le_trans (zaG hden) hq.2⟩
 have hnum:∀ a:Rat,a.num.natAbs≤(a * ((k:Int):Rat)).num.natAbs:=fun a=>by
  rw[mulk,zx1 _ a.den_nz,Int.natAbs_mul,Int.natAbs_natCast]
  have hg:Nat.gcd (a.num.natAbs * k) a.den=Nat.gcd k a.den:=Nat.Coprime.gcd_mul_left_cancel k a.reduced
  rw[hg]
  have hpos:0 < Nat.gcd k a.den:=Nat.gcd_pos_of_pos_left _ hk
  rw[Nat.le_div_iff_mul_le hpos]
  exact Nat.mul_le_mul_left _ (Nat.gcd_le_left _ hk)
 exact Nat.le_trans (zaG (hnum _)) h.1
theorem zAK {q:Rat} (hq:Fit q) {k:Nat} (hk:0 < k):zk9 (zk9 (some q) (some ((k:Int):Rat))) (some ((k:Int):Rat))=zk9 (some q) (some (((k * k:Nat):Int):Rat)):=by
 have e:q * (((k * k:Nat):Int):Rat)=q * ((k:Int):Rat) * ((k:Int):Rat):=by
  rw[Int.natCast_mul,Rat.intCast_mul,Rat.mul_assoc]
 have h2:zk9 (some q) (some (((k * k:Nat):Int):Rat))=chk (q * ((k:Int):Rat) * ((k:Int):Rat)):=by
  show chk _=_
  rw[e]
 rw[h2]
 show (chk (q * ((k:Int):Rat))).bind (fun x=>chk (x * ((k:Int):Rat)))=_
 by_cases h:Fit (q * ((k:Int):Rat))
 ·rw[ziL h,Option.bind_some]
 ·rw[zw3 h,zw3 (fun k2=>h (zP7 hq hk k2))]; rfl
def rbO (q:Rat):Option Rat:=(zk9 (some q) (some ((1000000000000:Int):Rat))).bind fun x=>chk (mkRat ((zrn (x.num.natAbs / x.den):Nat):Int) 1000000)
theorem zMH {q:Rat} (hq:Fit q) (h0:¬ q.num < 0):zbm (rq q)=some (ro (rbO q)):=by
  unfold zbm
  have hr:rq q=ro (some q):=rfl
  have hn:(rq q).neg=false:=decide_eq_false h0
  rw[hn,hr,znU hq.ok,Option.bind_some]
  simp only[Option.isSome_some,Bool.not_true,cond_false]
  rw[zej (by omega) (by omega),Option.bind_some,zhP hq.ok (zo5 (by omega) (by omega)).ok,Option.bind_some,zlM,Option.bind_some]
  unfold rbO
  have ok:=zfm (o:=some q) (p:=some ((1000000000000:Int):Rat))
  generalize zk9 (some q) (some ((1000000000000:Int):Rat))=o at *
  cases o with
  | none=>rfl
  | some x =>
    have fx:=ok x rfl
    simp only[Option.isNone_some,cond_false,Option.bind_some]
    show ((zbx (dg x.num.natAbs) (dg x.den)).bind _)=_
    have hl:=Nat.le_trans (zaG (Nat.div_le_self x.num.natAbs x.den)) fx.1
    have hrl:=zxK (a:=x.num.natAbs / x.den)
    have hs:(dg 1000000).length≤3:=zeS (by omega)
    rw[zix (by have:=fx.1; omega) (by have:=fx.2; omega) (Nat.pos_of_ne_zero x.den_nz),Option.bind_some]
    simp only[]
    rw[zj2 (by omega),Option.bind_some,zCR (by omega),Option.bind_some,zez (by omega),Option.bind_some,show (1000000:Int).toNat=1000000 from rfl,ziw (by omega) (by omega) (by omega),Option.bind_some]
    rfl
theorem zN0 {q:Rat} (hq:Fit q) (h0:¬ q.num < 0):zcm (rq q)=some (ro (rbO q)):=by
  unfold zcm
  have hr:rq q=ro (some q):=rfl
  have hsg:∃ s:Int,za9 (rq q)=some s∧decide (s < 0)=false:=by
    rw[zkb,decide_eq_false h0,cond_false]
    cases decide (q.num≠0)<;>exact ⟨_,rfl,rfl⟩
  obtain ⟨s,hs1,hs2⟩:=hsg
  have fm:=zo5 (n:=1000000) (by omega) (by omega)
  have two:=zAK hq (k:=1000000) (by omega)
  rw[hs1,hr,zyf hq.ok,Option.bind_some,Option.bind_some,hs2]
  simp only[Option.isSome_some,Bool.not_true,cond_false]
  rw[zmA (by omega) (by omega),Option.bind_some,zjr hq.ok fm.ok,Option.bind_some,Option.bind_some,zjr zfm fm.ok,Option.bind_some,zel,Option.bind_some]
  rw[show ((1000000:Int):Rat)=(((1000000:Nat):Int):Rat) from rfl,two,show ((((1000000 * 1000000:Nat)):Int):Rat)=((1000000000000:Int):Rat) from rfl]
  unfold rbO
  have ok:=zfm (o:=some q) (p:=some ((1000000000000:Int):Rat))
  generalize zk9 (some q) (some ((1000000000000:Int):Rat))=o at *
  cases o with
  | none=>rfl
  | some x =>
    have fx:=ok x rfl
    simp only[Option.isNone_some,cond_false,Option.bind_some]
    show ((zba (dg x.num.natAbs) (dg x.den)).bind _)=_
    have hl:=Nat.le_trans (zaG (Nat.div_le_self x.num.natAbs x.den)) fx.1
    have hrl:=zxK (a:=x.num.natAbs / x.den)
    have hs:(dg 1000000).length≤3:=zeS (by omega)
    rw[impl_div (by have:=fx.1; omega) (by have:=fx.2; omega) (Nat.pos_of_ne_zero x.den_nz),Option.bind_some]
    simp only[]
    rw[zFJ (by omega),Option.bind_some,zb2,Option.bind_some,zh4 (by omega),Option.bind_some,show (1000000:Int).toNat=1000000 from rfl,ze7 (by omega) (by rw[zjh]; omega) (by omega),Option.bind_some]
    rfl
theorem zDC {r:Rt} (hr:r.fit):∃ o,Oks o∧zbm r=some (ro o)∧zcm r=some (ro o):=by
  by_cases hg:Good r
  · obtain ⟨q,hf,rfl⟩:=hg
    by_cases h0:q.num < 0
    · refine ⟨none,zeA,?_,?_⟩
      · unfold zbm
        rw[spec_ratOk hr,zhB hf,show (rq q).neg=true from decide_eq_true h0]; rfl
      · unfold zcm
        rw[impl_ratOk hr,zhB hf,zkb,decide_eq_true h0]; rfl
    · exact ⟨_,zhs fun _=>zmw _,zMH hf h0,zN0 hf h0⟩
  · refine ⟨none,zeA,?_,?_⟩
    · unfold zbm
      rw[spec_ratOk hr,pB_not.2 hg]; rfl
    · unfold zcm
      rw[impl_ratOk hr,pB_not.2 hg]; rfl
/-! ### Readings -/
end Go.Di
namespace Go.Di
/-! ### Marks on lists -/
def ws {α:Type} (w:α→Nat) (l:List α):Nat:=(l.map w).sum
def zMV {α:Type} (mk:Int→α→α) (w:α→Nat) (k:Int) (a:List α) (i:Nat):List α:=a.mapIdx fun j x=>if j < i then mk (k+(ws w (a.take j):Nat)) x else x
def marks {α:Type} (mk:Int→α→α) (w:α→Nat) (k:Int) (a:List α):List α:=zMV mk w k a a.length
/-! ### Fractions -/
def wR (r:Rt):Nat:=1+r.mag.length+r.den.length
/-! ### Loops that append -/
theorem zHI {n:Nat} (h:n≤2000000):zah (Nat.ble (n+1) zan)=some ():=by
 have:Nat.ble (n+1) zan=true:=Nat.ble_eq_true_of_le (by unfold zan; omega)
 rw[this]; rfl
/-! ### Valid vectors -/
def Fits (q:List Rat):Prop:=∀ x∈q,Fit x
theorem Fits.get {q:List Rat} (h:Fits q) (i:Nat):Oks q[i]? := fun x hx=>h x (List.mem_of_getElem? hx)
structure Rfit (l:List Rt):Prop where
 fit:zg8 Rt.fit l
 few:ws wR l≤1000000000
/-! ### Inner products -/
theorem zpX:zc7 0=some (ro (some 0)):=by
 have:=zmA (n:=0) (by omega) (by omega)
 simpa using this
theorem zok:zbl=some (ro (some 0)):=by
 unfold zbl
 have:=zej (n:=0) (by omega) (by omega)
 rw[this]; rfl
/-! ### Vectors without gaps -/
end Go.Di
